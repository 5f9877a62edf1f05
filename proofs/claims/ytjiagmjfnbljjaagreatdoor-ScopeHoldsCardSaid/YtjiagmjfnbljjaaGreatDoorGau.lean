/- Lemmas for the statement proved in the last of these texts: part 21 of 25. Conditions: none. -/
import Derived.Test.YtjiagmjfnbljjaaGreatDoorGas
import Derived.Test.YtjiagmjfnbljjaaGreatDoorGaq
import Derived.Sort.Walk0
section
namespace Go.Proofs.YtjiagmjfnbljjaaGreatDoor
open Go
set_option maxHeartbeats 4000000
set_option linter.unusedVariables false
def AhU(ps:List ByteArray)(l:List (ByteArray×Int)):Nat:=(l.filter fun q=>q.2==1 && (PO q.1 ps 0).isNone).length
def IN(ps:List ByteArray)(c f o:Nat)(pre:List (ByteArray×Int))(q:ByteArray×Int):Int:=
  if q.2==2 then((c+UI 2 pre:Nat):Int) else if q.2==3 then((f+UI 3 pre:Nat):Int) else
  if q.2==1 then match PO q.1 ps 0 with
    | some j=>(j:Int)
    | none=>((o+AhU ps pre:Nat):Int)
  else 0
theorem AlU(k:Int)(q:ByteArray×Int)(l:List (ByteArray×Int)):UI k (q :: l)=(if q.2==k then 1 else 0)+UI k l:=by
  unfold UI
  rw[List.filter_cons]
  split
  · rw[List.length_cons];omega
  · omega
theorem AlT(ps:List ByteArray)(q:ByteArray×Int)(l:List (ByteArray×Int)):AhU ps (q :: l)=(if q.2==1 && (PO q.1 ps 0).isNone then 1 else 0)+AhU ps l:=by
  unfold AhU
  rw[List.filter_cons]
  split
  · rw[List.length_cons];omega
  · omega
theorem Aez(ps:List ByteArray):∀ (l:List (ByteArray×Int)) (c f o k:Nat),(XX ps c f o l).1[k]? = (l[k]?).map fun q=>(⟨q.1,q.2,IN ps c f o (l.take k) q⟩:Us)
  | [],c,f,o,k=>by simp[XX]
  | q :: r,c,f,o,k=>by
    have ih:=Aez ps r
    cases k with
    | zero=>
      simp only[List.getElem?_cons_zero,Option.map_some,List.take_zero]
      unfold XX IN
      have z:∀ k,UI k [] = 0:=fun _=>rfl
      have z2:AhU ps [] = 0:=rfl
      rw[z,z,z2]
      simp only[Nat.add_zero]
      split
      · rfl
      · split
        · rfl
        · split
          · cases PO q.1 ps 0<;>rfl
          · rfl
    | succ k=>
      simp only[List.getElem?_cons_succ,List.take_succ_cons]
      have eq2:∀ (c' f' o':Nat),(∀ q':ByteArray×Int,IN ps c' f' o' (r.take k) q'=IN ps c f o (q :: r.take k) q')→(r[k]?).map (fun q'=>(⟨q'.1,q'.2,IN ps c' f' o' (r.take k) q'⟩:Us))=(r[k]?).map fun q'=>(⟨q'.1,q'.2,IN ps c f o (q :: r.take k) q'⟩:Us):=by
        intro c' f' o' h
        cases r[k]? with
        | none=>rfl
        | some q'=>simp only[Option.map_some,h]
      have sl:∀ (c' f' o':Nat),(c'=c+if q.2==2 then 1 else 0)→(f'=f+if q.2==3 then 1 else 0)→(o'=o+if q.2==1 && (PO q.1 ps 0).isNone then 1 else 0)→∀ q':ByteArray×Int,IN ps c' f' o' (r.take k) q'=IN ps c f o (q :: r.take k) q':=by
        intro c' f' o' h1 h2 h3 q'
        unfold IN
        rw[AlU,AlU,AlT,h1,h2,h3]
        simp only[Nat.add_assoc]
      unfold XX
      by_cases h2:q.2==2
      · have h3:¬ (q.2==3)=true:=by intro h;simp at h2 h;omega
        have h1:¬ (q.2==1)=true:=by intro h;simp at h2 h;omega
        rw[if_pos h2]
        show(XX ps (c+1) f o r).1[k]? = _
        rw[ih,eq2 _ _ _ (sl _ _ _ (by rw[if_pos h2]) (by rw[if_neg h3];rfl) (by rw[Bool.eq_false_iff.2 h1];rfl))]
      · rw[if_neg h2]
        by_cases h3:q.2==3
        · have h1:¬ (q.2==1)=true:=by intro h;simp at h3 h;omega
          rw[if_pos h3]
          show(XX ps c (f+1) o r).1[k]? = _
          rw[ih,eq2 _ _ _ (sl _ _ _ (by rw[if_neg h2];rfl) (by rw[if_pos h3]) (by rw[Bool.eq_false_iff.2 h1];rfl))]
        · rw[if_neg h3]
          by_cases h1:q.2==1
          · rw[if_pos h1]
            cases hx:PO q.1 ps 0 with
            | some j=>
              dsimp only
              show(XX ps c f o r).1[k]? = _
              rw[ih,eq2 _ _ _ (sl _ _ _ (by rw[if_neg h2];rfl) (by rw[if_neg h3];rfl) (by rw[hx];simp))]
            | none=>
              dsimp only
              show(XX ps c f (o+1) r).1[k]? = _
              rw[ih,eq2 _ _ _ (sl _ _ _ (by rw[if_neg h2];rfl) (by rw[if_neg h3];rfl) (by rw[hx,h1];rfl))]
          · rw[if_neg h1]
            show(XX ps c f o r).1[k]? = _
            rw[ih,eq2 _ _ _ (sl _ _ _ (by rw[if_neg h2];rfl) (by rw[if_neg h3];rfl) (by rw[Bool.eq_false_iff.2 h1];rfl))]
theorem ApU(ps:List ByteArray):∀ (l:List (ByteArray×Int)) (c f o:Nat),(XX ps c f o l).2=o+AhU ps l
  | [],c,f,o=>rfl
  | q :: r,c,f,o=>by
    have ih:=ApU ps r
    rw[AlT]
    unfold XX
    by_cases h2:q.2==2
    · have h1:¬ (q.2==1)=true:=by intro h;simp at h2 h;omega
      rw[if_pos h2,Bool.eq_false_iff.2 h1]
      show(XX ps (c+1) f o r).2=_
      rw[ih];simp
    · rw[if_neg h2]
      by_cases h3:q.2==3
      · have h1:¬ (q.2==1)=true:=by intro h;simp at h3 h;omega
        rw[if_pos h3,Bool.eq_false_iff.2 h1]
        show(XX ps c (f+1) o r).2=_
        rw[ih];simp
      · rw[if_neg h3]
        by_cases h1:q.2==1
        · rw[if_pos h1,h1]
          cases hx:PO q.1 ps 0 with
          | some j=>
            dsimp only
            rw[ih];simp
          | none=>
            dsimp only
            rw[ih];simp;omega
        · rw[if_neg h1,Bool.eq_false_iff.2 h1]
          show(XX ps c f o r).2=_
          rw[ih];simp
theorem AqW(ps:List ByteArray)(l:List (ByteArray×Int))(c f o:Nat):(XX ps c f o l).1.length=l.length:=by
  apply Nat.le_antisymm
  · rcases Nat.lt_or_ge l.length (XX ps c f o l).1.length with h | h
    · have:=Aez ps l c f o l.length
      rw[List.getElem?_eq_getElem h,List.getElem?_eq_none (Nat.le_refl _)] at this
      cases this
    · exact h
  · rcases Nat.lt_or_ge (XX ps c f o l).1.length l.length with h | h
    · have:=Aez ps l c f o (XX ps c f o l).1.length
      rw[List.getElem?_eq_none (Nat.le_refl _),List.getElem?_eq_getElem h] at this
      cases this
    · exact h
theorem Ag0{α:Type}(P:α→Bool){l:List α}{k:Nat}{q:α}(h:l[k]? = some q)(hq:P q=true){m:Nat}(hm:k<m):((l.take k).filter P).length<((l.take m).filter P).length:=by
  have hk:=(List.getElem?_eq_some_iff.1 h).1
  have he:l[k] = q:=(List.getElem?_eq_some_iff.1 h).2
  have h1:l.take (k+1)=l.take k ++ [q]:=by rw[List.take_succ_eq_append_getElem hk,he]
  have h2:(l.take (k+1)).Sublist (l.take m):=List.take_sublist_take_left (by omega)
  have h3:=(h2.filter P).length_le
  rw[h1,List.filter_append,List.length_append,List.filter_cons,if_pos hq] at h3
  simp at h3
  omega
theorem AmN{α:Type}(P:α→Bool){l:List α}{k:Nat}{q:α}(h:l[k]? = some q)(hq:P q=true):((l.take k).filter P).length<(l.filter P).length:=by
  have:=Ag0 P h hq (m:=l.length) (List.getElem?_eq_some_iff.1 h).1
  rwa [List.take_length] at this
theorem Ajp{α:Type}(P:α→Bool):∀ {l:List α} {m:Nat},m<(l.filter P).length→∃ k q,l[k]? = some q∧P q=true∧((l.take k).filter P).length=m
  | [],m,h=>by simp at h
  | x :: l,m,h=>by
    rw[List.filter_cons] at h
    by_cases hx:P x=true
    · rw[if_pos hx,List.length_cons] at h
      cases m with
      | zero=>exact⟨0,x,rfl,hx,rfl⟩
      | succ m=>
        obtain⟨k,q,h1,h2,h3⟩:=Ajp P (l:=l) (m:=m) (by omega)
        exact⟨k+1,q,h1,h2,by rw[List.take_succ_cons,List.filter_cons,if_pos hx,List.length_cons,h3]⟩
    · rw[if_neg hx] at h
      obtain⟨k,q,h1,h2,h3⟩:=Ajp P (l:=l) (m:=m) h
      exact⟨k+1,q,h1,h2,by rw[List.take_succ_cons,List.filter_cons,if_neg hx,h3]⟩
theorem Aks{t:ByteArray}:∀ {ps:List ByteArray} {i j:Nat},PO t ps i=some j→ps[j - i]? = some t
  | [],i,j,h=>by cases h
  | p :: ps,i,j,h=>by
    have hb:=AeR h
    unfold PO at h
    split at h
    · rename_i hp
      cases h
      rw[Nat.sub_self,List.getElem?_cons_zero,hp]
    · have h1:=AeR h
      have:=Aks h
      rw[show j - i=(j - (i+1))+1 by omega,List.getElem?_cons_succ];exact this
def AsT(a b:ByteArray×Int):Prop:=a.1.data.toList<b.1.data.toList∨(a.1=b.1∧a.2<b.2)
theorem Ali{s:Sc}{q:ByteArray×Int}:q∈XY s↔q.1∈s.names.map (·.1)∧q.2∈(s.nm q.1).uses.map (·.1):=by
  rw[AjC,List.mem_flatMap]
  constructor
  · rintro⟨t,ht,hq⟩
    unfold Aa7 at hq
    obtain⟨k,hk,rfl⟩:=List.mem_map.1 hq
    exact⟨(EC _).mem_iff.1 ht,(KO _).mem_iff.1 hk⟩
  · rintro⟨h1,h2⟩
    refine⟨q.1,(EC _).mem_iff.2 h1,?_⟩
    unfold Aa7
    exact List.mem_map.2 ⟨q.2,(KO _).mem_iff.2 h2,rfl⟩
theorem Ah6{a b:List UInt8}(h:a≤b)(hne:a≠b):a<b:=by
  rcases Decidable.em (a<b) with h1 | h1
  · exact h1
  · exact absurd (Std.le_antisymm h (by simpa using h1)) hne
theorem Aoq{s:Sc}(hn:(s.names.map (·.1)).Nodup)(hu:UsN s):(XY s).Pairwise AsT:=by
  rw[AjC,List.pairwise_flatMap]
  constructor
  · intro t ht
    unfold Aa7
    rw[List.pairwise_map]
    have hnd:(AlE ((s.nm t).uses.map (·.1))).Nodup:=by
      rw[(KO _).nodup_iff]
      unfold Sc.nm
      cases hg:ZJ s.names t with
      | none=>exact .nil
      | some n=>exact hu _ (CF hg)
    refine(List.Pairwise.and (AeB _) hnd).imp fun {a b} h=>.inr ⟨rfl,?_⟩
    have:=h.1;have:=h.2;omega
  · have hnd:(Ae9 (s.names.map (·.1))).Nodup:=(EC _).nodup_iff.2 hn
    refine(List.Pairwise.and (AeA _) hnd).imp fun {a b} h x hx y hy=>.inl ?_
    unfold Aa7 at hx hy
    obtain⟨_,_,rfl⟩:=List.mem_map.1 hx
    obtain⟨_,_,rfl⟩:=List.mem_map.1 hy
    exact Ah6 h.1 fun he=>h.2 (Akd he)
theorem AsT.ne{a b:ByteArray×Int}(h:AsT a b):a≠b:=by
  rintro rfl
  rcases h with h | h
  · exact absurd h (Std.lt_irrefl)
  · omega
structure Aoy(L:List So)(i:Nat)(s:So):Prop where
  arnd:s.around<i
  first:s.around<0↔i=0
  kind:s.kind=1↔i=0
  loc0:0≤s.locals∧s.locals≤8000000000
  cel0:0≤s.cells∧0≤s.frees∧s.cells+s.frees≤8000000000
  len:s.uses.length≤4000000000
  rise:∀ (k:Nat) (u v:Us),s.uses[k]? = some u→s.uses[k+1]? = some v→u.Name.data.toList<v.Name.data.toList∨(u.Name=v.Name∧u.What<v.What)
  loc:∀ (k:Nat) (u:Us),s.uses[k]? = some u→u.What=1→0≤u.Slot∧u.Slot<s.locals∧∀ (k':Nat) (v:Us),k'<k→s.uses[k']? = some v→v.What=1→v.Slot≠u.Slot
  cel:∀ (k:Nat) (u:Us),s.uses[k]? = some u→(u.What=2∨u.What=3)→0≤u.Slot∧u.Slot<s.cells+s.frees∧(u.Slot<s.cells↔u.What=2)∧∀ (k':Nat) (v:Us),k'<k→s.uses[k']? = some v→(v.What=2∨v.What=3)→v.Slot≠u.Slot
  full:∀ j:Int,0≤j→j<s.cells+s.frees→∃ (k:Nat) (u:Us),s.uses[k]? = some u∧(u.What=2∨u.What=3)∧u.Slot=j
  free:∀ u∈s.uses,u.What=3→0≤s.around∧∃ a,L[s.around.toNat]? = some a∧∃ v∈a.uses,v.Name=u.Name∧(v.What=2∨v.What=3)
  glob:∀ u∈s.uses,(u.What=4∨u.What=5)→u.Slot=0∧(u.What=5→s.kind=3)
  five:∀ u∈s.uses,u.What=1∨u.What=2∨u.What=3∨u.What=4∨u.What=5
  modu:i=0→∀ u∈s.uses,u.What=4
theorem FR{s:Sc}{k:Nat}{u:Us}(h:(EN s).uses[k]? = some u):∃ q,(XY s)[k]? = some q∧u.Name=q.1∧u.What=q.2∧u.Slot=IN s.params 0 (UI 2 (XY s)) (if s.kind==4 then 1 else s.params.length) ((XY s).take k) q:=by
  have h:(XX s.params 0 (UI 2 (XY s)) (if s.kind==4 then 1 else s.params.length) (XY s)).1[k]? = some u:=h
  rw[Aez] at h
  cases hq:(XY s)[k]? with
  | none=>rw[hq] at h;cases h
  | some q=>
    rw[hq] at h
    simp only[Option.map_some,Option.some.injEq] at h
    subst h
    exact⟨q,rfl,rfl,rfl,rfl⟩
theorem Alj{s:Sc}{k:Nat}{q:ByteArray×Int}(h:(XY s)[k]? = some q):∃ u,(EN s).uses[k]? = some u∧u.Name=q.1∧u.What=q.2:=by
  have:(XX s.params 0 (UI 2 (XY s)) (if s.kind==4 then 1 else s.params.length) (XY s)).1[k]? = _:=Aez _ _ _ _ _ _
  rw[h] at this
  exact⟨_,this,rfl,rfl⟩
theorem AtY{p:Wp}{L:List So}(hL:L=p.scs.map EN){i:Nat}{s:Sc}(hs:p.scs[i]? = some s)
    (h2:Ar2 p) (hn:(s.names.map (·.1)).Nodup) (hnl:s.names.length≤100000000) (hu:UsN s) (hb:UsC s) (hf:s.few 100000000) (hp:s.params≠[]→s.kind=2)
    (hl:AgV 0 p) (h5:∀ t,GK p i t 5=true→s.kind=3) (h0:i=0→∀ t k,GK p 0 t k=true→k=4):Aoy L i (EN s):=by
  obtain⟨f1,f2,f3⟩:=hf
  have ha:=h2 i s hs
  have hsort:=Aoq hn hu
  have hpw:=List.pairwise_iff_getElem.1 hsort
  have hmem:∀ q,q∈XY s→GK p i q.1 q.2=true:=by
    intro q hq
    obtain⟨h1,h2⟩:=Ali.1 hq
    unfold GK Wp.nmOf
    rw[hs]
    obtain⟨v,hv⟩:=Akl h2
    dsimp only
    rw[hv];rfl
  have hlen5:∀ t,(Aa7 s t).length≤5:=by
    intro t
    unfold Aa7
    rw[List.length_map,(KO _).length_eq,List.length_map]
    unfold Sc.nm
    cases hg:ZJ s.names t with
    | none=>exact Nat.zero_le _
    | some n=>
      have h1:=hu _ (CF hg)
      have h2:=hb _ (CF hg)
      have:=AeT (T:=[1,2,3,4,5]) h1 fun k hk=>by
        have:=h2 k hk
        have:k=1∨k=2∨k=3∨k=4∨k=5:=by omega
        simpa using this
      simpa using this
  have hlen:(XY s).length≤500000000:=by
    rw[AjC]
    have:=Af2 (l:=Ae9 (s.names.map (·.1))) (g:=Aa7 s) (n:=5) fun x _=>hlen5 x
    rw[(EC _).length_eq,List.length_map] at this
    omega
  have hul:(EN s).uses.length=(XY s).length:=AqW _ _ _ _ _
  have hfive:∀ q∈XY s,q.2=1∨q.2=2∨q.2=3∨q.2=4∨q.2=5:=by
    intro q hq
    obtain⟨h1,h2⟩:=Ali.1 hq
    unfold Sc.nm at h2
    cases hg:ZJ s.names q.1 with
    | none=>rw[hg] at h2;simp[nm0] at h2
    | some n=>
      rw[hg] at h2
      have:=hb _ (CF hg) q.2 h2
      omega
  obtain⟨o0,ho0⟩:∃ o0,(if s.kind==4 then 1 else s.params.length)=o0:=⟨_,rfl⟩
  have hpso:s.params.length≤o0:=by
    rw[← ho0]
    split
    · rename_i hk
      have hk:s.kind=4:=by simpa using hk
      have:s.params = []:=by
        cases hq:s.params with
        | nil=>rfl
        | cons x r=>have:=hp (by rw[hq];simp);omega
      rw[this];exact Nat.zero_le _
    · exact Nat.le_refl _
  have ho0l:o0≤100000001:=by rw[← ho0];split<;>omega
  have hlocals:(EN s).locals=((o0+AhU s.params (XY s):Nat):Int)+s.tries:=by
    show((XX s.params 0 (UI 2 (XY s)) (if s.kind==4 then 1 else s.params.length) (XY s)).2:Int)+_=_
    rw[ApU,ho0]
  have hcn:AhU s.params (XY s)≤(XY s).length:=List.length_filter_le _ _
  have hc2:=AgZ 2 (XY s)
  have hc3:=AgZ 3 (XY s)
  have hcells:(EN s).cells=(UI 2 (XY s):Int):=rfl
  have hfrees:(EN s).frees=(UI 3 (XY s):Int):=rfl
  have harnd:(EN s).around=s.around:=rfl
  have hkind:(EN s).kind=s.kind:=rfl
  have neq:∀ {k k':Nat} {q q':ByteArray×Int},k'<k→(XY s)[k]? = some q→(XY s)[k']? = some q'→AsT q' q:=by
    intro k k' q q' hk h1 h2
    obtain⟨i1,rfl⟩:=List.getElem?_eq_some_iff.1 h1
    obtain⟨i2,rfl⟩:=List.getElem?_eq_some_iff.1 h2
    exact hpw k' k i2 i1 hk
  have mem_get:∀ {u:Us},u∈(EN s).uses→∃ (k:Nat) (q:ByteArray×Int),(XY s)[k]? = some q∧u.Name=q.1∧u.What=q.2∧u.Slot=IN s.params 0 (UI 2 (XY s)) o0 ((XY s).take k) q:=by
    intro u hu
    obtain⟨k,hk⟩:=List.mem_iff_getElem?.1 hu
    obtain⟨q,h1,h2,h3,h4⟩:=FR hk
    rw[ho0] at h4
    exact⟨k,q,h1,h2,h3,h4⟩
  refine⟨?_,?_,?_,?_,?_,by omega,?_,?_,?_,?_,?_,?_,?_,?_⟩
  · rw[harnd]
    rcases Nat.eq_zero_or_pos i with hi | hi
    · have:=ha.1 hi;omega
    · have:=ha.2 hi;omega
  · rw[harnd]
    rcases Nat.eq_zero_or_pos i with hi | hi
    · have:=ha.1 hi;omega
    · have:=ha.2 hi;omega
  · rw[hkind]
    rcases Nat.eq_zero_or_pos i with hi | hi
    · have:=ha.1 hi;omega
    · have:=ha.2 hi;omega
  · rw[hlocals];omega
  · rw[hcells,hfrees];omega
  · intro k u v h1 h2
    obtain⟨q,hq,e1,e2,_⟩:=FR h1
    obtain⟨q',hq',e3,e4,_⟩:=FR h2
    rw[e1,e2,e3,e4]
    exact neq (Nat.lt_succ_self k) hq' hq
  · intro k u h1 hw
    obtain⟨q,hq,e1,e2,e3⟩:=FR h1
    rw[ho0] at e3
    have hq1:q.2=1:=by omega
    have hsl:∀ {q:ByteArray×Int} {pre:List (ByteArray×Int)} {u:Us},q.2=1→u.Slot=IN s.params 0 (UI 2 (XY s)) o0 pre q→(∃ j:Nat,PO q.1 s.params 0=some j∧u.Slot=(j:Int))∨(PO q.1 s.params 0=none∧u.Slot=(o0:Int)+(AhU s.params pre:Int)):=by
      intro q pre u h e3
      unfold IN at e3
      rw[h] at e3
      cases hx:PO q.1 s.params 0 with
      | some j=>rw[hx] at e3;exact .inl ⟨j,rfl,e3⟩
      | none=>rw[hx] at e3;exact .inr ⟨rfl,by rw[e3];exact Int.natCast_add _ _⟩
    have hsN:∀ {k:Nat} {q:ByteArray×Int},(XY s)[k]? = some q→q.2=1→PO q.1 s.params 0=none→AhU s.params ((XY s).take k)<AhU s.params (XY s):=fun hq hq1 hx=>AmN (fun q:ByteArray×Int=>q.2==1 && (PO q.1 s.params 0).isNone) hq (by rw[hq1,hx];rfl)
    have hloc:=hlocals
    rw[Int.natCast_add] at hloc
    refine⟨?_,?_,fun k' v hk' hv hvw => ?_⟩
    · rcases hsl hq1 e3 with⟨j,_,e⟩ | ⟨_,e⟩<;>omega
    · rcases hsl hq1 e3 with⟨j,hx,e⟩ | ⟨hx,e⟩
      · have:=AeR hx;omega
      · have:=hsN hq hq1 hx;omega
    · obtain⟨q',hq',d1,d2,d3⟩:=FR hv
      rw[ho0] at d3
      have hq'1:q'.2=1:=by omega
      have hne:q'.1≠q.1:=by
        intro he
        have:=neq hk' hq hq'
        exact this.ne (Prod.ext he (by omega))
      rcases hsl hq1 e3 with⟨j,hx,e⟩ | ⟨hx,e⟩<;>rcases hsl hq'1 d3 with⟨j',hx',e'⟩ | ⟨hx',e'⟩
      · have gj:=Aks hx
        have gj':=Aks hx'
        intro he
        have:j'=j:=by omega
        rw[this,gj] at gj'
        exact hne (Option.some.inj gj').symm
      · have:=AeR hx;omega
      · have:=AeR hx';omega
      · have e:AhU s.params ((XY s).take k')<AhU s.params ((XY s).take k):=Ag0 (fun q:ByteArray×Int=>q.2==1 && (PO q.1 s.params 0).isNone) hq' (by rw[hq'1,hx'];rfl) hk'
        omega
  · intro k u h1 hw
    obtain⟨q,hq,e1,e2,e3⟩:=FR h1
    rw[ho0] at e3
    have s2:∀ {q:ByteArray×Int} (pre:List (ByteArray×Int)),q.2=2→IN s.params 0 (UI 2 (XY s)) o0 pre q=(UI 2 pre:Int):=by
      intro q pre h
      unfold IN
      rw[h];simp
    have s3:∀ {q:ByteArray×Int} (pre:List (ByteArray×Int)),q.2=3→IN s.params 0 (UI 2 (XY s)) o0 pre q=((UI 2 (XY s)+UI 3 pre:Nat):Int):=by
      intro q pre h
      unfold IN
      rw[h];rfl
    have l2:∀ {k:Nat} {q:ByteArray×Int},(XY s)[k]? = some q→q.2=2→UI 2 ((XY s).take k)<UI 2 (XY s):=fun h hq=>AmN (fun q:ByteArray×Int=>q.2==2) h (by simpa using hq)
    have l3:∀ {k:Nat} {q:ByteArray×Int},(XY s)[k]? = some q→q.2=3→UI 3 ((XY s).take k)<UI 3 (XY s):=fun h hq=>AmN (fun q:ByteArray×Int=>q.2==3) h (by simpa using hq)
    rw[hcells,hfrees]
    rcases hw with hw | hw
    · have hq2:q.2=2:=by omega
      rw[s2 _ hq2] at e3
      have:=l2 hq hq2
      refine⟨by omega,by omega,by omega,fun k' v hk' hv hvw => ?_⟩
      obtain⟨q',hq',d1,d2,d3⟩:=FR hv
      rw[ho0] at d3
      rcases hvw with hvw | hvw
      · have hq'2:q'.2=2:=by omega
        rw[s2 _ hq'2] at d3
        have e:UI 2 ((XY s).take k')<UI 2 ((XY s).take k):=Ag0 (fun q:ByteArray×Int=>q.2==2) hq' (by simpa using hq'2) hk'
        omega
      · have hq'3:q'.2=3:=by omega
        rw[s3 _ hq'3] at d3
        omega
    · have hq3:q.2=3:=by omega
      rw[s3 _ hq3] at e3
      have:=l3 hq hq3
      refine⟨by omega,by omega,by omega,fun k' v hk' hv hvw => ?_⟩
      obtain⟨q',hq',d1,d2,d3⟩:=FR hv
      rw[ho0] at d3
      rcases hvw with hvw | hvw
      · have hq'2:q'.2=2:=by omega
        rw[s2 _ hq'2] at d3
        have:=l2 hq' hq'2
        omega
      · have hq'3:q'.2=3:=by omega
        rw[s3 _ hq'3] at d3
        have e:UI 3 ((XY s).take k')<UI 3 ((XY s).take k):=Ag0 (fun q:ByteArray×Int=>q.2==3) hq' (by simpa using hq'3) hk'
        omega
  · intro j hj0 hj
    rw[hcells,hfrees] at hj
    by_cases hjc:j<(UI 2 (XY s):Int)
    · obtain⟨k,q,h1,h2,h3⟩:=Ajp (fun q:ByteArray×Int=>q.2==2) (l:=XY s) (m:=j.toNat) (by have e:UI 2 (XY s)=((XY s).filter fun q=>q.2==2).length:=rfl;omega)
      obtain⟨u,hu1,hu2,hu3⟩:=Alj h1
      have hq2:q.2=2:=by simpa using h2
      obtain⟨q',hq',_,_,e3⟩:=FR hu1
      rw[h1] at hq';cases hq'
      refine⟨k,u,hu1,.inl (by omega),?_⟩
      rw[e3]
      unfold IN
      rw[hq2]
      have e:UI 2 ((XY s).take k)=(((XY s).take k).filter fun q=>q.2==2).length:=rfl
      simp only[beq_self_eq_true,if_true]
      omega
    · obtain⟨k,q,h1,h2,h3⟩:=Ajp (fun q:ByteArray×Int=>q.2==3) (l:=XY s) (m:=j.toNat - UI 2 (XY s)) (by have e:UI 3 (XY s)=((XY s).filter fun q=>q.2==3).length:=rfl;omega)
      obtain⟨u,hu1,hu2,hu3⟩:=Alj h1
      have hq3:q.2=3:=by simpa using h2
      obtain⟨q',hq',_,_,e3⟩:=FR hu1
      rw[h1] at hq';cases hq'
      refine⟨k,u,hu1,.inr (by omega),?_⟩
      rw[e3]
      unfold IN
      rw[hq3]
      have e:UI 3 ((XY s).take k)=(((XY s).take k).filter fun q=>q.2==3).length:=rfl
      show((UI 2 (XY s)+UI 3 ((XY s).take k):Nat):Int)=j
      omega
  · intro u hu1 hw
    obtain⟨k,q,h1,e1,e2,_⟩:=mem_get hu1
    have hq3:q.2=3:=by omega
    have hx:=hmem q (List.mem_of_getElem? h1)
    rw[hq3] at hx
    have hap:ZM p i=s.around:=by unfold ZM;rw[hs]
    obtain⟨g1,g2⟩:=hl i q.1 (Nat.zero_le _) hx
    rw[hap] at g1 g2
    have key:∀ k',(k'=2∨k'=3)→GK p s.around.toNat q.1 k'=true→∃ a,L[s.around.toNat]? = some a∧∃ v∈a.uses,v.Name=u.Name∧(v.What=2∨v.What=3):=by
      intro k' hk' hh
      cases hc:p.scs[s.around.toNat]? with
      | none=>unfold GK Wp.nmOf at hh;rw[hc] at hh;cases hh
      | some c=>
        refine⟨EN c,by rw[hL,List.getElem?_map,hc];rfl,?_⟩
        unfold GK Wp.nmOf at hh
        rw[hc] at hh
        dsimp only at hh
        have hm:(q.1,k')∈XY c:=by
          refine Ali.2 ⟨?_,?_⟩
          · unfold Sc.nm at hh
            cases hg:ZJ c.names q.1 with
            | none=>rw[hg] at hh;cases hh
            | some n=>exact List.mem_map.2 ⟨_,CF hg,rfl⟩
          · cases hg:ZJ (c.nm q.1).uses k' with
            | none=>rw[hg] at hh;cases hh
            | some v=>exact List.mem_map.2 ⟨_,CF hg,rfl⟩
        obtain⟨j,hj⟩:=List.mem_iff_getElem?.1 hm
        obtain⟨v,hv1,hv2,hv3⟩:=Alj hj
        exact⟨v,List.mem_of_getElem? hv1,by rw[hv2,e1],by rw[hv3];exact hk'⟩
    refine⟨by rw[harnd];exact g1,?_⟩
    rw[harnd]
    rcases g2 with g2 | g2
    · exact key 2 (.inl rfl) g2
    · exact key 3 (.inr rfl) g2
  · intro u hu1 hw
    obtain⟨k,q,h1,e1,e2,e3⟩:=mem_get hu1
    have hq:q.2=4∨q.2=5:=by omega
    refine⟨?_,fun h => ?_⟩
    · rw[e3]
      unfold IN
      rcases hq with hq | hq<;>rw[hq]<;>rfl
    · rw[hkind]
      have hx:=hmem q (List.mem_of_getElem? h1)
      rw[show q.2=5 by omega] at hx
      exact h5 _ hx
  · intro u hu1
    obtain⟨k,q,h1,e1,e2,e3⟩:=mem_get hu1
    rw[e2]
    exact hfive q (List.mem_of_getElem? h1)
  · intro hi u hu1
    obtain⟨k,q,h1,e1,e2,e3⟩:=mem_get hu1
    have hx:=hmem q (List.mem_of_getElem? h1)
    rw[hi] at hx
    rw[e2]
    exact h0 hi _ _ hx
end Go.Proofs.YtjiagmjfnbljjaaGreatDoor
end
