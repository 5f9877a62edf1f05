/- Lemmas for the statement proved in the last of these texts: part 22 of 25. Conditions: none. -/
import Derived.Test.YtjiagmjfnbljjaaGreatDoorGau
import Derived.Test.YtjiagmjfnbljjaaGreatDoorGat
section
namespace Go.Proofs.YtjiagmjfnbljjaaGreatDoor
open Go
set_option maxHeartbeats 4000000
set_option linter.unusedVariables false
def LS.m(s:LS):Nat:=s.toks.length+s.deep.length
theorem Ahe(s:LS)(k:Int)(t:ByteArray)(a:Int):(s.add k t a).m=s.m+1:=by
  unfold LS.m LS.add
  simp only[List.length_append,List.length_cons,List.length_nil];omega
theorem Ar7(n a:Int):∀ (ds:List Int) (s:LS),ds.length=s.deep.length→(Aa2 n a ds s).m=s.m
  | [],s,_=>rfl
  | d :: ds,s,h=>by
    unfold Aa2
    split
    · rw[Ar7 n a ds ((s.setDeep ds).add 8 (⟨#[]⟩:ByteArray) a) rfl,Ahe]
      unfold LS.m LS.setDeep
      simp only[List.length_cons] at h
      dsimp only
      omega
    · split<;>rfl
theorem Arf(n a:Int)(s:LS):(EF n a s).m≤s.m+2:=by
  unfold EF
  split
  · split
    · exact Nat.le_add_right _ 2
    · rw[Ahe]
      unfold LS.m LS.setDeep
      simp only[List.length_cons];omega
  · rw[Ar7 n a s.deep s rfl];omega
theorem AsA(unq:ByteArray→ByteArray×Nat×Int)(S:ByteArray)(a:Nat)(s:LS):(UU unq S a s).2.m≤s.m+1:=by
  have f:∀ c:Int,(s.fault c a).m=s.m:=fun _=>rfl
  unfold UU
  dsimp only
  split
  · rw[Ahe];exact Nat.le_refl _
  split
  · rw[Ahe]
    split
    · exact Nat.le_refl _
    · rw[f];exact Nat.le_refl _
  split
  · rw[Ahe]
    split
    · rw[f];exact Nat.le_refl _
    · exact Nat.le_refl _
  split
  · rw[f];exact Nat.le_add_right _ _
  split
  · rw[Ahe]
    split<;>exact Nat.le_refl _
  split
  · rw[Ahe]
    split<;>exact Nat.le_refl _
  · rw[Ahe];exact Nat.le_refl _
theorem Aky{unq:ByteArray→ByteArray×Nat×Int}(hu:Aj1 unq)(ht:Ara unq)(S:ByteArray):∀ (f a n:Nat) (head:Bool) (s s':LS),a≤S.size→s.code=0→Ado s→Acu unq S f a n head s=some s'→s'.m+3 * a≤s.m+3 * S.size
  | 0,a,n,head,s,s',_,_,_,h=>by unfold Acu at h;cases h
  | f+1,a,n,head,s,s',h2,hc,hok,h=>by
    unfold Acu at h
    split at h
    · rename_i ha
      split at h
      · rename_i hb
        have:=AkA S ha (by simp only[beq_iff_eq] at hb;rw[hb];rfl)
        have hle:=Agb S (S.size - a) a
        have:=Aky hu ht S f (HM S (S.size - a) a) n head s s' (by omega) hc hok h
        omega
      split at h
      · have:=Aky hu ht S f (a+1) (n+1) head s s' (by omega) hc hok h
        omega
      split at h
      · have hx:(if s.opn==0 && !head then s.add 6 (⟨#[]⟩:ByteArray) a else s).code=0∧Ado (if s.opn==0 && !head then s.add 6 (⟨#[]⟩:ByteArray) a else s)∧(if s.opn==0 && !head then s.add 6 (⟨#[]⟩:ByteArray) a else s).m≤s.m+1:=by
          split
          · exact⟨hc,⟨hok.deep,hok.dlen,hok.o0,hok.o1⟩,by rw[Ahe];exact Nat.le_refl _⟩
          · exact⟨hc,hok,Nat.le_add_right _ _⟩
        have:=Aky hu ht S f (a+1) 0 (if s.opn==0 then true else head) _ s' (by omega) hx.1 hx.2.1 h
        omega
      · have hx:Ado (if head then EF n a s else s)∧(if head then EF n a s else s).m≤s.m+2:=by
          split
          · exact⟨(Ack hok (by omega) a).1,Arf _ _ _⟩
          · exact⟨hok,Nat.le_add_right _ _⟩
        dsimp only at h
        generalize (if head=true then EF (n:Int) (a:Int) s else s)=s1 at *
        split at h
        · rename_i hc1
          have hc1:s1.code=0:=by simpa using hc1
          obtain⟨t1,t2⟩:=Aom ht ha hc1
          obtain⟨t3,t4,t5⟩:=AcL hu ha hx.1 hc1
          have tm:=AsA unq S a s1
          split at h
          · cases h;omega
          · rename_i hc2
            have hc2:(UU unq S a s1).2.code=0:=by simpa using hc2
            have t2:=t2 hc2
            have:=Aky hu ht S f (UU unq S a s1).1 n false (UU unq S a s1).2 s' t4 hc2 (t5 hc2) h
            omega
        · cases h;omega
    · cases h;omega
theorem AiJ(a:Int):∀ (k:Nat) (s:LS),(LI a k s).toks.length=s.toks.length+k
  | 0,s=>rfl
  | k+1,s=>by
    unfold LI
    rw[AiJ a k]
    unfold LS.add
    simp only[List.length_append,List.length_cons,List.length_nil];omega
theorem Apd(S:ByteArray){q:List Tk×Int×Int}(h:AaJ Adu S=some q):q.1.length≤200000:=by
  unfold AaJ at h
  split at h
  · cases h;exact Nat.zero_le _
  · rename_i hsz
    cases hl:Acu Adu S (S.size+1) 0 0 true ⟨[],[0],0,0,0⟩ with
    | none=>rw[hl] at h;cases h
    | some s=>
      rw[hl] at h
      have hm:=Aky AjB Apg S _ 0 0 true ⟨[],[0],0,0,0⟩ s (Nat.zero_le _) rfl ⟨⟨[],rfl⟩,by simp,by simp,by simp⟩ hl
      have hm:s.toks.length+s.deep.length≤1+3 * S.size:=by
        have e:(⟨[],[0],0,0,0⟩:LS).m=1:=rfl
        rw[e] at hm
        unfold LS.m at hm;omega
      simp only[Option.map_some,Option.some.injEq] at h
      rw[← h]
      split
      · exact Nat.zero_le _
      · show(Aei S s).toks.length≤_
        unfold Aei
        dsimp only
        have e:∀ (s:LS) (k:Int) (t:ByteArray) (a:Int),(s.add k t a).toks.length=s.toks.length+1:=fun s k t a=>by unfold LS.add;simp
        rw[e,AiJ]
        split
        · rw[e]
          show s.toks.length+1+(s.deep.length - 1)+1≤_
          omega
        · omega
theorem Ams(S:ByteArray):(VV S).1.wt≤100000000:=by
  have z:(nod 0 0 (⟨#[]⟩:ByteArray) []).wt≤100000000:=by decide
  unfold VV
  split
  · exact z
  · rename_i q hq
    split
    · exact z
    · split
      · exact z
      · rename_i hc _ o ho
        obtain⟨q',hq',htxt⟩:=AiV AjB Apg S
        rw[hq] at hq';cases hq'
        have hlen:=Apd S hq
        obtain⟨p,hp,hp1,hp2⟩:=AkK q.1 AnY
        have hphi:=An2 q.1
        unfold Aeq at ho
        rw[hp] at ho
        dsimp only[Option.bind] at ho
        split at ho
        · cases ho;exact z
        · split at ho
          · cases ho;exact z
          · cases ho
            show(nod 1 0 (⟨#[]⟩:ByteArray) [nod 2 (Aea p.1) (⟨#[]⟩:ByteArray) p.1]).wt≤_
            have e0:((⟨#[]⟩:ByteArray):ByteArray).size=0:=rfl
            simp only[nod,Nd.wt,Nd.wts,e0,List.length_nil]
            omega
theorem AuE(S:ByteArray):((AW (VV S).1).2.1≠0→(AW (VV S).1).1 = []∧0≤(AW (VV S).1).2.2∧(AW (VV S).1).2.2≤S.size)∧
    ((AW (VV S).1).2.1=0→0<(AW (VV S).1).1.length∧(AW (VV S).1).1.length≤2147483648∧∀ i s,(AW (VV S).1).1[i]? = some s→Aoy (AW (VV S).1).1 i s):=by
  obtain⟨hat,_⟩:=AqX S
  have hwt:=Ams S
  generalize (VV S).1=n at hat hwt
  unfold AW
  cases hck:PX MD n with
  | false=>exact⟨fun _=>⟨rfl,Int.le_refl _,by show(0:Int)≤_;omega⟩,fun h=>by cases h⟩
  | true=>
    simp only[if_true]
    obtain⟨hkind,hkl,hvis⟩:=Aka hck
    have hk0:0<n.kids.length:=by omega
    have hkid0:n.kid 0=n.kids[0]:=OK hk0
    obtain⟨p,hp⟩:∃ p,ndS (n.wt+1) false (n.kid 0) 0 false false (wp0.open_ 1 n.at_ (-1))=p:=⟨_,rfl⟩
    have hwp:NF n=p.lat.foldl (fun p q=>Adq q p) p:=by unfold NF;rw[hp]
    have hall:∀ X:Nd→Prop,n.All X→(n.kid 0).All X:=fun X h=>by rw[hkid0];exact h.kids _ (List.getElem_mem hk0)
    have inv:∀ {b:Bool} {X:Nd→Prop} {I:Wp→Prop},Inv b X I→n.All X→I (wp0.open_ 1 n.at_ (-1))→I p:=fun H hX h0=>by
      rw[← hp]
      exact(Ajw H (fun _=>kst) (n.wt+1) false (n.kid 0) 0 false false _ (hall _ hX) ⟨h0,Nat.one_pos⟩).1
    have one:∀ {C:Sc→Prop},C ⟨1,n.at_,-1,[],[],0⟩→∀ c∈(wp0.open_ 1 n.at_ (-1)).scs,C c:=by
      intro C h c hc
      have hc:c∈([]:List Sc) ++ [⟨1,n.at_,-1,[],[],0⟩]:=hc
      simp only[List.nil_append,List.mem_singleton] at hc
      subst hc;exact h
    have hflt:Aje S.size p:=inv (b:=false) (Atb S.size) hat ⟨.inl rfl,nofun⟩
    have hflt2:Aje S.size (NF n):=by rw[hwp];exact Aje.asks _ _ hflt.2 hflt
    refine⟨fun hc => ?_,fun hc => ?_⟩
    · split
      · rename_i hb
        have hb:(NF n).code≠0:=by simpa using hb
        exact⟨rfl,hflt2.1.resolve_left hb⟩
      · rename_i hb
        rw[if_neg hb] at hc
        exact absurd rfl hc
    · have hcode:(NF n).code=0:=by
        split at hc
        · exact hc
        · rename_i hb
          simpa using hb
      have hb:((NF n).code != 0)=false:=by rw[hcode];rfl
      rw[hb]
      simp only[Bool.false_eq_true,if_false]
      have hc0:(p.lat.foldl (fun p q=>Adq q p) p).code=0:=by rw[← hwp];exact hcode
      obtain⟨hw1,hw2⟩:=AhS _ _ hc0
      rw[← hwp] at hw1
      rw[hw1]
      have haq:Aq 0 (wp0.open_ 1 n.at_ (-1)):=⟨fun i s hs=>by
        have hs:([] ++ [(⟨1,n.at_,-1,[],[],0⟩:Sc)])[i]? = some s:=hs
        cases i with
        | zero=>simp at hs;subst hs;exact⟨Int.le_refl _,by show(-1:Int)<0;decide⟩
        | succ i=>simp at hs,Nat.one_pos⟩
      have har:CX p:=by rw[← hp];exact(AoU _ _ _ _ _ _ _ haq).ar
      have hwk:(n.kids[0]).wt<n.wt:=Nd.wt_lt (List.getElem_mem hk0)
      have Aah:(wp0.open_ 1 n.at_ (-1)).sub p (n.kid 0).wt:=by rw[← hp];exact MW _ _ _ _ _ _ _
      rw[hkid0] at Aah
      have hfew:∀ s∈p.scs,s.few 100000000:=by
        intro s hs
        exact(Aah.few 0 (Int.le_refl _) (one ⟨Int.le_refl 0,Int.le_refl 0,by simp⟩) s hs).mono (by omega)
      have hue:UE p:=inv (b:=false) AsE (Nd.all_true n) (one (C:=fun c=>∀ q∈c.names,q.2.uses = []) (by simp))
      have hlo:AlM p:=inv (b:=false) ApC (Nd.all_true n) (by
        intro i t hb
        exfalso
        unfold Wp.nmOf at hb
        have e1:(wp0.open_ 1 n.at_ (-1)).scs = [⟨1,n.at_,-1,[],[],0⟩]:=rfl
        rw[e1] at hb
        cases i with
        | zero=>simp[Sc.nm,ZJ,nm0] at hb
        | succ i=>simp[nm0] at hb)
      have hnm:∀ c∈p.scs,c.Nms (· ∈ n.txts):=inv (b:=false) (ApH (· ∈ n.txts)) (Nd.txts_all n.txts n fun _ h=>h) (one (C:=fun c=>c.Nms (· ∈ n.txts)) ⟨by simp,by simp⟩)
      have hpar:∀ c∈p.scs,c.params≠[]→c.kind=2:=inv Aty (Nd.all_true n) (one (C:=fun c=>c.params≠[]→c.kind=2) fun h=>absurd rfl h)
      have har2:Ar2 p:=inv (b:=false) AsV (Nd.all_true n) (by
        intro j c hc
        have hc:([] ++ [(⟨1,n.at_,-1,[],[],0⟩:Sc)])[j]? = some c:=hc
        cases j with
        | zero=>simp at hc;subst hc;exact⟨fun _=>⟨rfl,rfl⟩,fun h=>by omega⟩
        | succ j=>simp at hc)
      have hfree:=Akk hue hlo hw2
      have hsA:=Asr p
      have hsm:Sm p (BW (BV p)):=hsA.trans (Ass _)
      have hpos:0<p.scs.length:=by have:=Aah.ge;have e1:(wp0.open_ 1 n.at_ (-1)).scs.length=1:=rfl;omega
      have hps:p.scs.length≤1+n.wt:=by have:=Aah.scs;have e1:(wp0.open_ 1 n.at_ (-1)).scs.length=1:=rfl;omega
      refine⟨by rw[List.length_map,hsm.len];exact hpos,by rw[List.length_map,hsm.len];omega,fun i s hs => ?_⟩
      rw[List.getElem?_map] at hs
      cases hq:(BW (BV p)).scs[i]? with
      | none=>rw[hq] at hs;cases hs
      | some c=>
        rw[hq] at hs
        simp only[Option.map_some,Option.some.injEq] at hs
        subst hs
        have hcm:=List.mem_of_getElem? hq
        have hnmB:∀ c∈(BW (BV p)).scs,c.Nms (· ∈ n.txts):=by
          -- the names that uses adds stand in scopes ahead
          have h1:∀ c∈(BV p).scs,c.Nms (· ∈ n.txts):=by
            unfold BV
            exact MU (P:=fun q=>∀ c∈q.scs,c.Nms (· ∈ n.txts)) (fun q i hq=>MU (P:=fun q=>∀ c∈q.scs,c.Nms (· ∈ n.txts)) (fun q t hq=>Al6 (fun c t k h=>h.upd _ _) i q t hq) _ _ hq) _ _ hnm
          unfold BW
          refine MU (P:=fun q=>∀ c∈q.scs,c.Nms (· ∈ n.txts)) (fun q i hq => ?_) _ _ h1
          have:∀ (ts:List ByteArray) (q:Wp),(∀ t∈ts,t∈n.txts)→(∀ c∈q.scs,c.Nms (· ∈ n.txts))→∀ c∈(ts.foldl (EX i) q).scs,c.Nms (· ∈ n.txts):=by
            intro ts
            induction ts with
            | nil=>intro q _ h;exact h
            | cons t ts ih=>
              intro q ht h
              rw[List.foldl_cons]
              refine ih _ (fun u hu=>ht u (by simp[hu])) ?_
              have htT:=ht t (by simp)
              have pass:∀ (hh:Int) (f:Nat) (k:Int) (p:Wp),(∀ c∈p.scs,c.Nms (· ∈ n.txts))→∀ c∈(ME hh t f k p).scs,c.Nms (· ∈ n.txts):=by
                intro hh f
                induction f with
                | zero=>intro k p hp;exact hp
                | succ f ih2=>
                  intro k p hp
                  unfold ME
                  split
                  · exact ih2 _ _ (LP (p:=p) (i:=k.toNat) (f:=fun s=>(s.of t).upd t (Nm.put 3)) (fun c hc=>(Sc.Nms.of hc htT).upd _ _) hp)
                  · exact hp
              unfold EX
              split
              · exact h
              · exact LP (p:=ME (VZ q i t) t (q.scs.length+1) (ZM q i) q) (i:=(VZ q i t).toNat) (f:=fun s=>s.upd t fun n=>(n.del 1).put 2) (fun c hc=>hc.upd _ _) (pass _ _ _ _ h)
          refine this _ q (fun t ht => ?_) hq
          unfold XV at ht
          cases hs:q.scs[i]? with
          | none=>rw[hs] at ht;cases ht
          | some c=>
            rw[hs] at ht
            exact(hq c (List.mem_of_getElem? hs)).2 t ((EC _).mem_iff.1 ht)
        obtain⟨n1,n2⟩:=hnmB c hcm
        have htl:=Nd.txts_len n
        have hfewB:=(Aoi p).few 100000000 (by decide) hfew c hcm
        have hkB:∀ j,(BW (BV p)).kindOf j=p.kindOf j:=fun j=>hsm.kind j
        have hck2:(BW (BV p)).kindOf i=c.kind:=by unfold Wp.kindOf;rw[hq]
        have hk0:p.kindOf 0=1:=by
          obtain⟨c0,hc0⟩:∃ c0,p.scs[0]? = some c0:=⟨_,List.getElem?_eq_getElem hpos⟩
          unfold Wp.kindOf
          rw[hc0]
          exact((har2 0 c0 hc0).1 rfl).2
        refine AtY (p:=BW (BV p)) rfl hq ?_ n1 ?_ (AsL hue c hcm) (Amv (Amu hue) c hcm) (hfewB.mono (by decide)) ?_ (AoT (hsA.arnd har) hfree) ?_ ?_
        · intro j c' hc'
          obtain⟨c0,hc0⟩:∃ c0,p.scs[j]? = some c0:=by
            have:=(List.getElem?_eq_some_iff.1 hc').1
            exact⟨_,List.getElem?_eq_getElem (by rw[hsm.len] at this;exact this)⟩
          obtain⟨c1,h1,h2⟩:=hsm.sc j c0 hc0
          rw[hc'] at h1;cases h1
          rw[h2.kind,h2.around]
          exact har2 j c0 hc0
        · have:=AeT n1 n2
          rw[List.length_map] at this
          omega
        · exact Al7 (C:=fun c=>c.params≠[]→c.kind=2) (fun c t h hp=>by rw[SV];rw[(Aep t c).2] at hp;exact h hp) (fun c t k h hp=>h hp) (fun c t h hp=>h hp) hpar c hcm
        · intro t ht
          have h1:=AoE (by omega) (by omega) ht
          obtain⟨_,h2⟩:=Agg hue
          have h3:=h2 i t 5 h1
          rw[← hck2,hkB]
          unfold AbN at h3
          split at h3
          · cases h3
          · split at h3
            · cases h3
            · split at h3
              · rename_i hb
                simp only[Bool.and_eq_true,beq_iff_eq] at hb
                exact hb.2
              · split at h3
                · cases h3
                · split at h3<;>cases h3
        · intro hi t k ht
          have hz:=Apl (hsA.arnd har) hfree (by rw[hsA.kind];exact hk0)
          rw[Alh hz] at ht
          obtain⟨_,h2⟩:=Agg hue
          have h3:=h2 0 t k ht
          rw[h3]
          unfold AbN
          rw[hk0];rfl
end Go.Proofs.YtjiagmjfnbljjaaGreatDoor
end
