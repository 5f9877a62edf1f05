/- Lemmas for the statement proved in the last of these texts: part 7 of 25. Conditions: none. -/
import Derived.Test.YtjiagmjfnbljjaaGreatDoorGae
import Derived.Test.YtjiagmjfnbljjaaGreatDoorGac
import Derived.Test.YtjiagmjfnbljjaaGreatDoorGab
import Derived.Laws.RangeAny
section
namespace Go.Proofs.YtjiagmjfnbljjaaGreatDoor
open Go
theorem Ajy:SlT 22 167 1 4:=.mk (by kernel_rfl) (by decide) (by kernel_rfl)
theorem Am9:SlT 206 21 1 4:=.mk (by kernel_rfl) (by decide) (by kernel_rfl)
theorem Fr.set{w w1 w2:World}{b:Nat}{o:Obj}(e:Ext w w1)(hb:w.heap.size≤b)(h:HZ w1 b o w2):Ext w w2:=
  Fr.step e h.fr fun i hi hd=>by omega
theorem AmO(s:ByteArray)(pos:Nat)(h:pos<s.size):1≤(Utf8.decode s pos).2:=by
  by_cases ha:(s[pos]'h).toNat<128
  · rw[decode_ascii s pos h ha]
    exact Nat.le_refl 1
  · exact(decode_high s pos h (by omega)).2
theorem Aes{w:World}(t:ByteArray)(hl:t.size≤2147483648){K:Sl→World→Prop}(hK:∀ l w',Ext w w'→l.n=(EV t).length→OQ w' l ((EV t).map (.int .i32 ·))→K l w'):NR t K w:=by
  refine Ahy _ _ _ ?_
  unfold Afo
  intro it w1 h1
  have ha:=h1.addr
  subst ha
  refine YE (fun n l w'=>Ext w w'∧∃ pos xs k,w'.heap[w.heap.size]? = some (.stringIter t pos)∧Own w' (w.heap.size+1) 21 1 l xs∧t.size≤pos+k∧n=k∧xs.length+k≤t.size∧xs++(MA t k pos).map (Value.int .i32 ·)=(EV t).map (Value.int .i32 ·)) t.size ⟨none,0,0⟩ rfl ⟨h1.fr,0,[],t.size,h1.get,Own.nil _ _ _ _,by omega,rfl,by simp,rfl⟩ ?_
  rintro n l w2 ⟨e2,pos,xs,k,hit,hown,hk,rfl,hxk,hxs⟩ again hag
  refine⟨w.heap.size,t,pos,rfl,hit,?_⟩
  refine JE (fun hlt => ?_) (fun hge => ?_)
  · have hlt':pos<t.size:=by simpa using hlt
    intro w3 hw3
    have hset:HZ w2 w.heap.size (.stringIter t (pos+(Utf8.decode t pos).2)) w3:=hw3
    have e3:Ext w w3:=e2.set (Nat.le_refl _) hset
    have hw:=AmO t pos hlt'
    cases n with
    | zero=>omega
    | succ k=>
    intro a w4 h4
    have ho4:Own w4 (w.heap.size+1) 21 1 l xs:=(hown.fr hset.fr fun b hb hc=>by have:=(hown.old hb).1;omega).ext h4.fr
    have hsz:=hset.size
    have hlen:=ho4.len
    have h2:=e2.size
    have hlt2:=ZC hit
    have h4s:=h4.size
    refine AmK Am9 (news:=[.int .i32 ((Utf8.decode t pos).1:Int)]) ho4 (src:=⟨some a,1,1⟩) ⟨nofun,fun a' ha' => ?_⟩ rfl (by simp[MH]) (by simp only;omega) (by decide) (by omega) fun s' w5 hs' hown5 hf5 _ => ?_
    · simp only[Option.some.injEq] at ha'
      subst ha'
      exact h4.cells
    have hob:∀ b,l.a=some ⟨b,0,none⟩→w.heap.size+1≤b:=fun b hb=>(ho4.old hb).1
    have e5:Ext w w5:=Fr.step (e3.trans h4.fr) hf5 fun i hi hd=>by have:=hob i hd;omega
    have hit5:w5.heap[w.heap.size]? = some (.stringIter t (pos+(Utf8.decode t pos).2)):=hf5.get (h4.fr.get (hset.get hlt2)) (fun hc=>by have:=hob _ hc;omega)
    refine hag k s' w5 (by omega) ⟨e5,_,xs ++ [.int .i32 ((Utf8.decode t pos).1:Int)],k,hit5,hown5,by omega,rfl,by simp;omega,?_⟩
    rw[← hxs]
    simp[MA,hlt']
  · have hge':t.size≤pos:=by simp at hge;omega
    have hnil:MA t n pos = []:=by
      cases n with
      | zero=>rfl
      | succ k=>simp[MA];omega
    rw[hnil] at hxs
    simp only[List.map_nil,List.append_nil] at hxs
    have hlen:=hown.len
    refine Rt.mk (h:=hSl) l (hK l w2 e2 ?_ ?_)
    · rw[hxs,List.length_map] at hlen;omega
    · rw[← hxs];exact hown.cells
theorem Am3{w:World}(t:ByteArray)(hl:t.size≤2147483648):Rdv (AdF t) (MD t) w:=by
  intro K hK
  refine AjJ _ _ _ ?_
  unfold Aiv
  refine Aes t hl fun l w1 e1 hn hs => ?_
  obtain⟨hu,_,i,z,hi,hz⟩:=Am9
  have hu2:PP.underlying 21=some (.int .i32):=by kernel_rfl
  have hu3:PP.underlying 9=some .string:=by kernel_rfl
  have hrun:(convert 206 9 l.v).run PP w1 = .ok (.string (runesBytes (EV t))) w1:=by
    cases ha:l.a with
    | none=>
      have h0:=hs.1 ha
      have hp:EV t = []:=List.length_eq_zero_iff.1 (by omega)
      have hl:l.v = .slice none 0 0:=by simp[Sl.v,ha,h0]
      rw[hl,run_convert_runes_nil w1 _ _ _ 0 0 hu hu2 hu3,hp]
      rfl
    | some a=>
      have hl:l.v = .slice (some a) l.n l.c:=by simp[Sl.v,ha]
      have:=run_convert_runes (P:=PP) w1 206 9 21 a l.n l.c (EV t) (by omega) hu hu2 hu3 (fun j hj=>by
        refine hs.2 a ha j _ ?_
        rw[List.getElem?_map,List.getElem?_eq_getElem hj]
        simp[List.getD,List.getElem?_eq_getElem hj])
      rw[hl,this,hn,List.take_length]
  refine YZ (h:=EB) _ hrun ?_
  exact RtB _ (hK _ e1)
end Go.Proofs.YtjiagmjfnbljjaaGreatDoor
end
section
namespace Go.Proofs.YtjiagmjfnbljjaaGreatDoor
open Go
set_option linter.unusedSimpArgs false
set_option linter.unusedVariables false
theorem BF:(⟨#[]⟩:ByteArray).toList = []:=ByteArray.toList_mk []
def Av0(N:Nat):Prop:=∀ {w:World} {B:Nat} {n:Nd} {x:JA},n.wt<N→Rep w B n x→Rdv (AmD x) (kEx (kd n)) w
theorem NP:SlT 25 27 6 88:=.mk (by kernel_rfl) (by decide) (by kernel_rfl)
theorem Alu{α:Type}(p:α→Bool)(l:List α)(k:Nat)(hk:k<l.length)(h:(l.take k).all p=true)(hp:p l[k] = true):(l.take (k+1)).all p=true:=by
  rw[List.take_succ_eq_append_getElem hk,List.all_append,h]
  simp[hp]
theorem Ap9{α:Type}(p:α→Bool)(l:List α)(k:Nat)(hk:k<l.length)(hp:p l[k] = false):l.all p=false:=by
  rw[Bool.eq_false_iff]
  intro h
  rw[List.all_eq_true] at h
  have:=h l[k] (List.getElem_mem hk)
  rw[hp] at this;cases this
end Go.Proofs.YtjiagmjfnbljjaaGreatDoor
end
section
namespace Go.Proofs.YtjiagmjfnbljjaaGreatDoor
open Go
set_option linter.unusedSimpArgs false
set_option linter.unusedVariables false
set_option maxHeartbeats 4000000
def Av1(N:Nat):Prop:=∀ {w:World} {B:Nat} {n:Nd} {x:JA},n.wt<N→Rep w B n x→Rdv (AmE x) (kSt (kd n)) w
end Go.Proofs.YtjiagmjfnbljjaaGreatDoor
end
section
namespace Go.Proofs.YtjiagmjfnbljjaaGreatDoor
open Go
set_option linter.unusedSimpArgs false
set_option linter.unusedVariables false
set_option maxHeartbeats 4000000
theorem FL(ks:List Nd)(k:Nat)(h:k<ks.length):(ks.map kd).drop k=kd ks[k] :: (ks.map kd).drop (k+1):=by
  rw[List.drop_eq_getElem_cons (by simpa using h)];simp
end Go.Proofs.YtjiagmjfnbljjaaGreatDoor
end
section
namespace Go.Proofs.YtjiagmjfnbljjaaGreatDoor
open Go
set_option linter.unusedSimpArgs false
set_option linter.unusedVariables false
set_option maxHeartbeats 4000000
theorem Arw(n:Nd):Ag5 n=LJ n.kids+1:=by cases n;rfl
theorem Alv(a b:List Nd):LJ (a++b)=max (LJ a) (LJ b):=by
  induction a with
  | nil=>simp[LJ]
  | cons k r ih=>simp only[List.cons_append,LJ,ih];omega
theorem AhY(l:List Nd)(k:Nat)(h:k<l.length):LJ (l.take (k+1))=max (LJ (l.take k)) (Ag5 l[k]):=by
  rw[List.take_succ_eq_append_getElem h,Alv]
  simp[LJ]
end Go.Proofs.YtjiagmjfnbljjaaGreatDoor
end
section
namespace Go.Proofs.YtjiagmjfnbljjaaGreatDoor
open Go
set_option linter.unusedSimpArgs false
set_option linter.unusedVariables false
set_option maxHeartbeats 4000000
set_option maxRecDepth 4000
theorem AfX{g:Nat}{v:Value}{h:UO}{K:h.ty→World→Prop}{w:World}(hg:GG g=true)(hc:Cl PP g #[v] h K w):clv (Fv.v ⟨g,#[]⟩) #[v] h K w:=⟨g,#[],rfl,hg,by simpa using hc⟩
theorem AoF{g:Nat}{v c:Value}{h:UO}{K:h.ty→World→Prop}{w:World}(hg:GG g=true)(hc:Cl PP g #[v,c] h K w):clv (Fv.v ⟨g,#[c]⟩) #[v] h K w:=⟨g,#[c],rfl,hg,by simpa using hc⟩
theorem Av3{g:Nat}{v c d:Value}{h:UO}{K:h.ty→World→Prop}{w:World}(hg:GG g=true)(hc:Cl PP g #[v,c,d] h K w):clv (Fv.v ⟨g,#[c,d]⟩) #[v] h K w:=⟨g,#[c,d],rfl,hg,by simpa using hc⟩
def Shp(B0 b N:Nat)(w:World)(f:Fv)(p:Kd→Bool):Prop:=∀ ⦃w':World⦄ ⦃B:Nat⦄ ⦃n:Nd⦄ ⦃x:JA⦄,Fr (fun i=>B0≤i∧i≤b) w w'→n.wt<N→Rep w' B n x→Rdv (clv f.v #[x.v] JS) (p (kd n)) w'
def WB(B0 b N:Nat)(w:World)(v:Value)(q:ByteArray→List Kd→Bool):Prop:=∀ ⦃w':World⦄ ⦃B:Nat⦄ ⦃n:Nd⦄ ⦃x:JA⦄,Fr (fun i=>B0≤i∧i≤b) w w'→n.wt≤N→Rep w' B n x→Rdv (clv v #[x.v] JS) (q n.text (n.kids.map kd)) w'
def AfV(B0 b:Nat)(w:World)(v:Value)(p:ByteArray→Bool):Prop:=∀ ⦃w':World⦄ (s:ByteArray),Fr (fun i=>B0≤i∧i≤b) w w'→s.size≤2147483648→Rdv (clv v #[.string s] JS) (p s) w'
theorem Shp.set{B0 b N:Nat}{w w':World}{f:Fv}{p:Kd→Bool}(h:Shp B0 b N w f p)(e:Fr (fun i=>B0≤i∧i≤b) w w'):Shp B0 b N w' f p:=fun _ _ _ _ e2 hn hr=>h (e.trans e2) hn hr
theorem WB.set{B0 b N:Nat}{w w':World}{f:Value}{q:ByteArray→List Kd→Bool}(h:WB B0 b N w f q)(e:Fr (fun i=>B0≤i∧i≤b) w w'):WB B0 b N w' f q:=fun _ _ _ _ e2 hn hr=>h (e.trans e2) hn hr
theorem AfV.set{B0 b:Nat}{w w':World}{f:Value}{p:ByteArray→Bool}(h:AfV B0 b w f p)(e:Fr (fun i=>B0≤i∧i≤b) w w'):AfV B0 b w' f p:=fun _ s e2 hs=>h s (e.trans e2) hs
theorem Shp.ext{B0 b N:Nat}{w w':World}{f:Fv}{p:Kd→Bool}(h:Shp B0 b N w f p)(e:Ext w w'):Shp B0 b N w' f p:=fun _ _ _ _ e2 hn hr=>h (e.fr.trans e2) hn hr
theorem WB.ext{B0 b N:Nat}{w w':World}{f:Value}{q:ByteArray→List Kd→Bool}(h:WB B0 b N w f q)(e:Ext w w'):WB B0 b N w' f q:=fun _ _ _ _ e2 hn hr=>h (e.fr.trans e2) hn hr
theorem AfV.ext{B0 b:Nat}{w w':World}{f:Value}{p:ByteArray→Bool}(h:AfV B0 b w f p)(e:Ext w w'):AfV B0 b w' f p:=fun _ s e2 hs=>h s (e.fr.trans e2) hs
def VOk(B0:Nat)(w:World):Prop:=∀ ⦃w':World⦄ (s:ByteArray),Fr (fun i=>B0≤i) w w'→s.size≤2147483648→Rdv (CA s) (MD s) w'
theorem VOk.fu{B0:Nat}{w w':World}(h:VOk B0 w)(e:Fr (fun i=>B0≤i) w w'):VOk B0 w':=fun _ s e2 hs=>h s (e.trans e2) hs
theorem VOk.ext{B0:Nat}{w w':World}(h:VOk B0 w)(e:Ext w w'):VOk B0 w':=fun _ s e2 hs=>h s (e.fr.trans e2) hs
theorem Alx{w:World}(t:ByteArray):Rdv (AbR t) (AiW t) w:=by
  intro K hK
  refine Ai0 _ _ _ ?_
  unfold AgJ
  unfold AiW AeI at hK
  simp only[ByteArray.toList_mk]
  generalize t.toList=l at hK ⊢
  have e:=Ext.refl w
  repeat' first
    | (with_reducible refine JE (fun hb => ?_) (fun hb => ?_))
    | (with_reducible refine RtB _ (leaf hK e ?_))
  all_goals clear hK e
  all_goals simp only[beq_iff_eq,beq_eq_false_iff_ne,ne_eq] at *
  all_goals first
    | contradiction
    | (subst_vars;rfl)
    | (refine(List.any_eq_false.2 fun x hx hc => ?_).symm
       rw[beq_iff_eq] at hc;subst hc;simp_all;done)
theorem AfR{w:World}{B:Nat}{n:Nd}{x:JA}(hr:Rep w B n x):Rdv (SE x) (Age n.neg n.mag) w:=by
  intro K hK0
  refine Aja _ _ _ ?_
  unfold AgT
  intro a1 w1 h1
  have hc:=h1.cells
  have hK:∀ w',Ext w1 w'→K _ w':=fun w' e=>hK0 w' (h1.fr.trans e)
  clear hK0
  replace hr:=hr.ext h1.fr
  have e1:=h1.fr
  clear h1
  have e:=Ext.refl w1
  obtain⟨s1,s2,rfl,hm,hs⟩:=hr.eq
  have hm1:=hm.1
  repeat' first
    | (with_reducible refine Au3 hc e ?_)
    | (with_reducible refine Au2 hc e ?_)
    | (with_reducible refine JE (fun hb => ?_) (fun hb => ?_)<;>(try simp only[beq_iff_eq,bne_iff_ne,decide_eq_true_eq,Bool.not_eq_true',decide_eq_false_iff_not,beq_eq_false_iff_ne,bne_eq_false_iff_eq,Bool.not_eq_false',ne_eq] at hb))
    | (with_reducible refine RtB _ (leaf hK e ?_))
  all_goals (clear hK hc e hr;try clear hs;try clear hm;try clear hE;try clear hl;try clear hR)
  all_goals ((try dsimp only);(try rw[AvG hm1]);unfold Age;simp_all)
theorem Aac{w:World}(t:ByteArray)(hl:t.size≤2147483648):Rdv (NT t) (OS t) w:=by
  intro K hK
  refine AhF _ _ _ ?_
  unfold Afv
  have hsz:t.toList.length=t.size:=by rw[ByteArray.toList_eq];simp
  refine YE (fun n i w'=>w'=w∧∃ k:Nat,i=k∧n+k=t.size∧EM true (t.toList.take k)=true) t.size 0 rfl ⟨rfl,0,rfl,rfl,by simp[EM]⟩ ?_
  rintro n i w' ⟨rfl,k,rfl,hn,hp⟩ again hag
  refine JE (fun hlt => ?_) (fun hge => ?_)
  · have hlt':k<t.size:=by simp at hlt;omega
    refine YZ (h:=QC .u8) ((t[k]).toNat:Int) (HU Tryz.underlying9 t k (by omega) (by simpa using hlt')) ?_
    have hstep:=AfL (l:=t.toList) true k hp (by omega)
    have hget:(t.toList[k]'(by omega))=t[k]:=by simp[ByteArray.toList_eq];rfl
    rw[hget] at hstep
    have next:(HL t[k].toNat || (!(k==0) && IJ t[k].toNat))=true→again [.int .i64 (IntKind.i64.wrap ((k:Int)+1))] w':=fun hc=>by
      rw[ZS (n:=t.size) (by omega) (by omega) (by omega)]
      exact hag (n - 1) ((k:Int)+1) w' (by omega) ⟨rfl,k+1,by omega,by omega,by rw[hstep];simpa using hc⟩
    have stop:(HL t[k].toNat || (!(k==0) && IJ t[k].toNat))=false→Rt JS K (.bool false) w':=fun hc=>by
      have h1:=Aen true (k+1) (l:=t.toList) (by rw[hstep];simpa using hc)
      refine Rt.mk (h:=JS) false ?_
      have:OS t=false:=by simp[OS,h1]
      rw[← this];exact hK _ (Ext.refl _)
    clear hag hK hstep
    generalize (t[k].toNat:Int)=c at next stop
    unfold GO
    repeat' (refine JE (fun _ => ?_) (fun _ => ?_))
    all_goals first
      | (refine next ?_;clear next stop;simp_all [HL,IJ];done)
      | (refine stop ?_;clear next stop;simp_all [HL,IJ];done)
      | (refine stop ?_;clear next stop;simp_all [HL,IJ];omega)
  · have hge':k=t.size:=by simp at hge;omega
    rw[hge',← hsz,List.take_length] at hp
    have he:(⟨#[]⟩:ByteArray).toList = []:=ByteArray.toList_mk []
    rw[he]
    refine JE (fun h0 => ?_) (fun h0 => ?_)
    · refine Alx t _ fun w2 e2 => ?_
      refine Rt.mk (h:=JS) _ ?_
      have:OS t = !AiW t:=by simp at h0;simp[OS,hp,h0]
      rw[← this];exact hK _ e2
    · refine Rt.mk (h:=JS) false ?_
      have:OS t=false:=by simp at h0;simp[OS,h0]
      rw[← this];exact hK _ (Ext.refl _)
theorem Ald{w:World}{B:Nat}{g:Bool}{m:List Int}{s:Sl}(hm:Aox w B m s)(hl:m.length≤2147483648):Rdv (AaT ⟨g,s⟩) (AoW g m) w:=by
  intro K hK
  refine AhI _ _ _ ?_
  unfold Afy
  intro a1 w1 h1
  have hm1:=hm.fr h1.fr fun _ _ h=>h
  have hs:=hm.1
  refine AaZ (x:=s) (YV h1.cells (Ext.refl _) 1 rfl) ?_
  refine HT (x:=g) (YV h1.cells (Ext.refl _) 0 rfl) ?_
  refine JE (fun hb => ?_) (fun hb => ?_)
  · refine JE (fun hb2 => ?_) (fun hb2 => ?_)
    · simp only[decide_eq_true_eq] at hb2
      have hd:decide (m.length≤256)=true:=decide_eq_true (by omega)
      refine JE (fun hb3 => ?_) (fun hb3 => ?_)
      · have hz:m = []:=List.length_eq_zero_iff.1 (by simp at hb3;omega)
        subst hz
        refine RtB _ (leaf hK h1.fr ?_)
        simp_all [AoW]
      · have hpos:0<m.length:=by simp at hb3;omega
        refine AaZ (x:=s) (YV h1.cells (Ext.refl _) 1 rfl) ?_
        have hwr:IntKind.i64.wrap ((s.n:Int) - 1)=((m.length - 1:Nat):Int):=by rw[JY (by omega) (by omega)];omega
        rw[hwr]
        cases ha:s.a with
        | none=>have:=hm.2.2.2.1 ha;have:=hm.2.1;omega
        | some a=>
          have hlast:m[m.length - 1]? = some (m[m.length - 1]'(by omega)):=List.getElem?_eq_getElem (by omega)
          refine JM rfl ⟨by omega,by omega,?_⟩
          refine SS (x:=m[m.length - 1]'(by omega)) (by simpa using (hm1.2.2.2.2 a ha).2 (m.length - 1) (.int .u32 (m[m.length - 1]'(by omega))) (by simp[hlast])) ?_
          refine RtB _ (leaf hK h1.fr ?_)
          simp only[AoW,List.getLast?_eq_getElem?,hlast,hd]
          simp only[Bool.not_eq_true'] at hb
          subst hb
          rfl
    · refine RtB _ (leaf hK h1.fr ?_)
      simp only[decide_eq_false_iff_not] at hb2
      have hd:decide (m.length≤256)=false:=decide_eq_false (by omega)
      simp[AoW,hd]
  · refine RtB _ (leaf hK h1.fr ?_)
    simp at hb
    simp[AoW,hb]
end Go.Proofs.YtjiagmjfnbljjaaGreatDoor
end
section
namespace Go.Proofs.YtjiagmjfnbljjaaGreatDoor
open Go
set_option linter.unusedSimpArgs false
set_option linter.unusedVariables false
set_option maxHeartbeats 4000000
def AT(B0 N:Nat)(w:World):Prop:=∀ ⦃w':World⦄ ⦃B:Nat⦄ ⦃n:Nd⦄ ⦃x:JA⦄,Fr (fun i=>B0≤i) w w'→n.wt<N→Rep w' B n x→Rdv (GX x) (right MD n) w'
theorem AT.ext{B0 N:Nat}{w w':World}(h:AT B0 N w)(e:Ext w w'):AT B0 N w':=fun _ _ _ _ e2 hn hr=>h (e.fr.trans e2) hn hr
theorem AT.fu{B0 N:Nat}{w w':World}(h:AT B0 N w)(e:Fr (fun i=>B0≤i) w w'):AT B0 N w':=fun _ _ _ _ e2 hn hr=>h (e.trans e2) hn hr
theorem AT.at_{B0 b N:Nat}{w w':World}(h:AT B0 N w)(hbB:B0≤b)(e:Fr (fun i=>B0≤i∧i≤b) w w'):AT B0 N w':=h.fu (e.mono fun i _ hi=>by omega)
theorem Alc{w:World}{B:Nat}{n:Nd}{x:JA}(hr:Rep w B n x):Rdv (AaS x) (SP n.kind) w:=by
  intro K hK0
  refine AhB _ _ _ ?_
  unfold Afr
  intro a1 w1 h1
  have hc:=h1.cells
  have hK:∀ w',Ext w1 w'→K _ w':=fun w' e=>hK0 w' (h1.fr.trans e)
  clear hK0
  replace hr:=hr.ext h1.fr
  have e1:=h1.fr
  clear h1
  have e:=Ext.refl w1
  obtain⟨s1,s2,rfl,hm,hs⟩:=hr.eq
  repeat' first
    | (with_reducible refine FX hc e ?_)
    | (with_reducible refine JE (fun hb => ?_) (fun hb => ?_)<;>(try simp only[beq_iff_eq,bne_iff_ne,decide_eq_true_eq,Bool.not_eq_true',decide_eq_false_iff_not,beq_eq_false_iff_ne,bne_eq_false_iff_eq,Bool.not_eq_false',ne_eq] at hb))
    | (with_reducible refine RtB _ (leaf hK e ?_))
  all_goals (clear hK hc e hr;try clear hs;try clear hm;try clear hE;try clear hl;try clear hR)
  all_goals (unfold SP;simp_all)
theorem Ang{w:World}{B:Nat}{n:Nd}{x:JA}(hr:Rep w B n x):Rdv (Aip x) (AkH n) w:=by
  intro K hK0
  refine AjQ _ _ _ ?_
  unfold AiB
  intro a1 w1 h1
  have hc:=h1.cells
  have hK:∀ w',Ext w1 w'→K _ w':=fun w' e=>hK0 w' (h1.fr.trans e)
  clear hK0
  replace hr:=hr.ext h1.fr
  have e1:=h1.fr
  clear h1
  have e:=Ext.refl w1
  obtain⟨s1,s2,rfl,hm,hs⟩:=hr.eq
  have hs1:=hs.1
  repeat' first
    | (with_reducible refine FX hc e ?_)
    | (with_reducible refine Atr hc e ?_)
    | (with_reducible refine MX hc e ?_)
    | (with_reducible refine BJ hc e ?_)
    | (with_reducible refine JE (fun hb => ?_) (fun hb => ?_)<;>(try simp only[beq_iff_eq,bne_iff_ne,decide_eq_true_eq,Bool.not_eq_true',decide_eq_false_iff_not,beq_eq_false_iff_ne,bne_eq_false_iff_eq,Bool.not_eq_false',ne_eq] at hb))
    | (refine AfR (hr.ext e) _ fun w2 e2 => ?_;replace e:=e.trans e2)
    | (with_reducible refine RtB _ (leaf hK e ?_))
  all_goals (clear hK hc e hr;try clear hs;try clear hm;try clear hE;try clear hl;try clear hR)
  all_goals ((try dsimp only);(try rw[AvG hs1]);unfold AkH;simp_all [BF])
section
variable{B0 N:Nat}{w:World}(hR:AT B0 N w){B:Nat}{n:Nd}{x:JA}(hr:Rep w B n x)(hw:n.wt<N)
include hR hr hw
theorem Aho:Rdv (AdH x) (kEx (kd n)) w:=by
  intro K hK0
  refine AjO _ _ _ ?_
  unfold Aiz
  intro a1 w1 h1
  have hc:=h1.cells
  have hK:∀ w',Ext w1 w'→K _ w':=fun w' e=>hK0 w' (h1.fr.trans e)
  clear hK0
  replace hr:=hr.ext h1.fr
  have e1:=h1.fr
  clear h1
  have e:=Ext.refl w1
  obtain⟨s1,s2,rfl,hm,hs⟩:=hr.eq
  rw[AuH,← CJ] at hK
  repeat' first
    | (with_reducible refine FX hc e ?_)
    | (with_reducible refine BJ hc e ?_)
    | (with_reducible refine JE (fun hb => ?_) (fun hb => ?_)<;>(try simp only[beq_iff_eq,bne_iff_ne,decide_eq_true_eq,Bool.not_eq_true',decide_eq_false_iff_not,beq_eq_false_iff_ne,bne_eq_false_iff_eq,Bool.not_eq_false',ne_eq] at hb))
    | (refine hR (Ext.fr (e1.trans e)) hw (hr.ext e) _ fun w2 e2 => ?_;replace e:=e.trans e2)
    | (unfold LF)
    | (with_reducible refine RtB _ (leaf hK e ?_))
  all_goals (clear hK hc e hr;try clear hs;try clear hm;try clear hE;try clear hl;try clear hR)
  all_goals (unfold Af4;simp_all<;>(intros;exfalso;omega))
theorem AeE:Rdv (AaV x) (kTg (kd n)) w:=by
  intro K hK0
  refine AhM _ _ _ ?_
  unfold AfC
  intro a1 w1 h1
  have hc:=h1.cells
  have hK:∀ w',Ext w1 w'→K _ w':=fun w' e=>hK0 w' (h1.fr.trans e)
  clear hK0
  replace hr:=hr.ext h1.fr
  have e1:=h1.fr
  clear h1
  have e:=Ext.refl w1
  obtain⟨s1,s2,rfl,hm,hs⟩:=hr.eq
  rw[AuJ,← CJ] at hK
  repeat' first
    | (with_reducible refine BJ hc e ?_)
    | (with_reducible refine JE (fun hb => ?_) (fun hb => ?_)<;>(try simp only[beq_iff_eq,bne_iff_ne,decide_eq_true_eq,Bool.not_eq_true',decide_eq_false_iff_not,beq_eq_false_iff_ne,bne_eq_false_iff_eq,Bool.not_eq_false',ne_eq] at hb))
    | (refine hR (Ext.fr (e1.trans e)) hw (hr.ext e) _ fun w2 e2 => ?_;replace e:=e.trans e2)
    | (refine Alc (hr.ext e) _ fun w2 e2 => ?_;replace e:=e.trans e2)
    | (with_reducible refine RtB _ (leaf hK e ?_))
  all_goals (clear hK hc e hr;try clear hs;try clear hm;try clear hE;try clear hl;try clear hR)
  all_goals simp_all
theorem Ajn:Rdv (AdJ x) (kTs (kd n)) w:=by
  intro K hK0
  refine AgF _ _ _ ?_
  unfold AdW
  intro a1 w1 h1
  have hc:=h1.cells
  have hK:∀ w',Ext w1 w'→K _ w':=fun w' e=>hK0 w' (h1.fr.trans e)
  clear hK0
  replace hr:=hr.ext h1.fr
  have e1:=h1.fr
  clear h1
  have e:=Ext.refl w1
  obtain⟨s1,s2,rfl,hm,hs⟩:=hr.eq
  have hk:kTs (kd n)=(kTg (kd n) || (n.kind==23 && right MD n)):=rfl
  rw[hk] at hK
  repeat' first
    | (with_reducible refine FX hc e ?_)
    | (with_reducible refine BJ hc e ?_)
    | (with_reducible refine JE (fun hb => ?_) (fun hb => ?_)<;>(try simp only[beq_iff_eq,bne_iff_ne,decide_eq_true_eq,Bool.not_eq_true',decide_eq_false_iff_not,beq_eq_false_iff_ne,bne_eq_false_iff_eq,Bool.not_eq_false',ne_eq] at hb))
    | (refine hR (Ext.fr (e1.trans e)) hw (hr.ext e) _ fun w2 e2 => ?_;replace e:=e.trans e2)
    | (refine AeE (hR.ext (e1.trans e)) (hr.ext e) hw _ fun w2 e2 => ?_;replace e:=e.trans e2)
    | (with_reducible refine RtB _ (leaf hK e ?_))
  all_goals (clear hK hc e hr;try clear hs;try clear hm;try clear hE;try clear hl;try clear hR)
  all_goals simp_all
theorem Aa6:Rdv (SD x) (kBl (kd n)) w:=by
  intro K hK0
  refine Ai9 _ _ _ ?_
  unfold AgS
  intro a1 w1 h1
  have hc:=h1.cells
  have hK:∀ w',Ext w1 w'→K _ w':=fun w' e=>hK0 w' (h1.fr.trans e)
  clear hK0
  replace hr:=hr.ext h1.fr
  have e1:=h1.fr
  clear h1
  have e:=Ext.refl w1
  obtain⟨s1,s2,rfl,hm,hs⟩:=hr.eq
  have hs1:=hs.1
  have hk:kBl (kd n)=(n.kind==2 && !n.kids.isEmpty && right MD n):=rfl
  rw[hk] at hK
  repeat' first
    | (with_reducible refine FX hc e ?_)
    | (with_reducible refine MX hc e ?_)
    | (with_reducible refine BJ hc e ?_)
    | (with_reducible refine JE (fun hb => ?_) (fun hb => ?_)<;>(try simp only[beq_iff_eq,bne_iff_ne,decide_eq_true_eq,Bool.not_eq_true',decide_eq_false_iff_not,beq_eq_false_iff_ne,bne_eq_false_iff_eq,Bool.not_eq_false',ne_eq] at hb))
    | (refine hR (Ext.fr (e1.trans e)) hw (hr.ext e) _ fun w2 e2 => ?_;replace e:=e.trans e2)
    | (with_reducible refine RtB _ (leaf hK e ?_))
  all_goals (clear hK hc e hr;try clear hs;try clear hm;try clear hE;try clear hl;try clear hR)
  all_goals (rcases hk:n.kids with _ | ⟨k0,r⟩<;>have hkl:=congrArg List.length hk<;>simp only[List.length_cons,List.length_nil] at hkl<;>first | (exfalso;dsimp only at *;omega) | (simp_all;done))
theorem Ahp:Rdv (Abj x) (kSt (kd n)) w:=by
  intro K hK0
  refine Ae4 _ _ _ ?_
  unfold Abs
  intro a1 w1 h1
  have hc:=h1.cells
  have hK:∀ w',Ext w1 w'→K _ w':=fun w' e=>hK0 w' (h1.fr.trans e)
  clear hK0
  replace hr:=hr.ext h1.fr
  have e1:=h1.fr
  clear h1
  have e:=Ext.refl w1
  obtain⟨s1,s2,rfl,hm,hs⟩:=hr.eq
  rw[AuI,← CJ] at hK
  repeat' first
    | (with_reducible refine FX hc e ?_)
    | (with_reducible refine BJ hc e ?_)
    | (with_reducible refine JE (fun hb => ?_) (fun hb => ?_)<;>(try simp only[beq_iff_eq,bne_iff_ne,decide_eq_true_eq,Bool.not_eq_true',decide_eq_false_iff_not,beq_eq_false_iff_ne,bne_eq_false_iff_eq,Bool.not_eq_false',ne_eq] at hb))
    | (refine hR (Ext.fr (e1.trans e)) hw (hr.ext e) _ fun w2 e2 => ?_;replace e:=e.trans e2)
    | (with_reducible refine RtB _ (leaf hK e ?_))
  all_goals (clear hK hc e hr;try clear hs;try clear hm;try clear hE;try clear hl;try clear hR)
  all_goals (unfold Af5;simp_all<;>(intros;exfalso;omega))
end
section
variable{b B0 N:Nat}{w:World}(hbB:B0≤b)(hR:AT B0 N w)
include hbB hR
theorem YG:Shp B0 b N w ⟨128,#[]⟩ kEx:=fun _ _ _ _ e hn hr K hK=>AfX (by rfl) (Aho (hR.at_ hbB e) hr hn K hK)
theorem AcE:Shp B0 b N w ⟨129,#[]⟩ kTg:=fun _ _ _ _ e hn hr K hK=>AfX (by rfl) (AeE (hR.at_ hbB e) hr hn K hK)
theorem AiR:Shp B0 b N w ⟨133,#[]⟩ kTs:=fun _ _ _ _ e hn hr K hK=>AfX (by rfl) (Ajn (hR.at_ hbB e) hr hn K hK)
theorem TC:Shp B0 b N w ⟨132,#[]⟩ kBl:=fun _ _ _ _ e hn hr K hK=>AfX (by rfl) (Aa6 (hR.at_ hbB e) hr hn K hK)
theorem AlC:Shp B0 b N w ⟨127,#[]⟩ kSt:=fun _ _ _ _ e hn hr K hK=>AfX (by rfl) (Ahp (hR.at_ hbB e) hr hn K hK)
end
theorem Aoa{B0 b N:Nat}{w:World}:Shp B0 b N w ⟨131,#[]⟩ Ag8:=fun _ _ _ _ e hn hr K hK=>AfX (by rfl) (Ang hr K hK)
theorem BL{b B0 N:Nat}{w:World}(hbB:B0≤b)(hbw:b<w.heap.size)(hR:AT B0 N w)(k:Int){K:Fv→World→Prop}(hK:∀ f w',Ext w w'→Shp B0 b N w' f (kIs k)→K f w'):BY k K w:=by
  refine AmF _ _ _ ?_
  unfold AlK
  intro a w1 h1
  refine Rt.mk (h:=hFn) ⟨_,#[.pointer (some a)]⟩ (hK _ w1 h1.fr ?_)
  intro w' B n x e hn hr K2 hK2
  refine AoF (by rfl) ?_
  show Aiq x a K2 w'
  have ha1:=h1.addr
  have YV:=h1.cells.fr e (by subst ha1;simp;omega)
  refine AjR _ _ _ _ ?_
  unfold AiC
  intro a2 w2 h2
  have hr2:=hr.ext h2.fr
  refine FX h2.cells (Ext.refl _) ?_
  refine JO (x:=k) (YV.ext h2.fr 0 _ rfl) ?_
  rw[hr.kind]
  have hv:kIs k (kd n)=(n.kind==k && right MD n):=rfl
  rw[hv] at hK2
  refine JE (fun hb => ?_) (fun hb => ?_)
  · refine BJ h2.cells (Ext.refl _) ?_
    refine((hR.ext h1.fr).at_ hbB e).ext h2.fr (Fr.refl _ _) hn hr2 _ fun w3 e3 => ?_
    refine RtB _ (hK2 _ (h2.fr.trans e3) |> fun h => ?_)
    rw[hb] at h;simpa using h
  · refine RtB _ (leaf hK2 h2.fr ?_)
    rw[hb];rfl
def Agl:List (Kd→Bool)→List Kd→Bool
  | [],[]=>true
  | p :: ps,x :: l=>p x && Agl ps l
  | _,_=>false
theorem An7:∀ (ps:List (Kd→Bool)) (l:List Kd),ps.length≠l.length→Agl ps l=false
  | [],[],h=>absurd rfl h
  | [],_ :: _,_=>rfl
  | _ :: _,[],_=>rfl
  | p :: ps,x :: l,h=>by simp only[Agl,An7 ps l (by simpa using h),Bool.and_false]
def AB(B0 b N:Nat)(w:World)(l:Sl)(fps:List (Fv×(Kd→Bool))):Prop:=l.n=fps.length∧∀ i f p,fps[i]? = some (f,p)→(∃ a,l.a=some a∧b<a.block∧w.cell? (a.add i)=some f.v)∧Shp B0 b N w f p
theorem AB.ext{B0 b N:Nat}{w w':World}{l:Sl}{fps:List (Fv×(Kd→Bool))}(h:AB B0 b N w l fps)(e:Ext w w'):AB B0 b N w' l fps:=
  ⟨h.1,fun i f p hi=>let ⟨⟨a,ha,hn,hc⟩,hs⟩:=h.2 i f p hi;⟨⟨a,ha,hn,e.cell hc⟩,hs.ext e⟩⟩
theorem AB.set{B0 b N:Nat}{w w':World}{l:Sl}{fps:List (Fv×(Kd→Bool))}(h:AB B0 b N w l fps)(e:Fr (fun i=>B0≤i∧i≤b) w w'):AB B0 b N w' l fps:=
  ⟨h.1,fun i f p hi=>let ⟨⟨a,ha,hn,hc⟩,hs⟩:=h.2 i f p hi;⟨⟨a,ha,hn,e.cell (by rw[AhT];omega) hc⟩,hs.set e⟩⟩
theorem AB.made{B0 b N:Nat}{w w':World}{a:Addr}{t n c:Nat}{cs:Array Value}(hbw:b<w.heap.size)(fps:List (Fv×(Kd→Bool)))(h:LG w (.cells cs t) a w')(hcs:cs=(fps.map fun x=>x.1.v).toArray)(hn:n=fps.length)(hs:∀ f p,(f,p)∈fps→Shp B0 b N w f p):AB B0 b N w' ⟨some a,n,c⟩ fps:=by
  subst hcs
  have ha:=h.addr
  refine⟨hn,fun i f p hi=>⟨⟨a,rfl,by subst ha;simp;omega,?_⟩,Shp.ext (hs f p (List.mem_of_getElem? hi)) h.fr⟩⟩
  have:=h.cells i f.v (by simp[hi])
  exact this
theorem AB.nil{B0 b N:Nat}{w:World}:AB B0 b N w ⟨none,0,0⟩ []:=⟨rfl,fun i f p h=>by simp at h⟩
theorem PU{B0 b N:Nat}{w:World}{B:Nat}{ks:List Nd}{l s:Sl}{fps:List (Fv×(Kd→Bool))}(hs:HS w B ks l)(hl:∀ k∈ks,k.wt<N)(hlen:ks.length≤2147483648)(hf:AB B0 b N w s fps):Rdv (KD l s) (Agl (fps.map (·.2)) (ks.map kd)) w:=by
  intro K hK
  refine Alp _ _ _ _ ?_
  unfold AjZ
  have hs1:=hs.1
  have hf1:=hf.1
  refine JE (fun hb => ?_) (fun hb => ?_)
  · refine RtB _ (leaf hK (Ext.refl _) ?_)
    rw[An7 _ _ (by simp at hb ⊢;omega)]
  have hsame:ks.length=fps.length:=by simp at hb;omega
  refine YE (fun m i w'=>Ext w w'∧∃ k:Nat,i=k∧m+k=ks.length∧Agl (fps.map (·.2)) (ks.map kd)=Agl ((fps.map (·.2)).drop k) ((ks.map kd).drop k)) ks.length 0 rfl ⟨Ext.refl w,0,rfl,rfl,rfl⟩ ?_
  rintro m i w' ⟨e,k,rfl,hn,hp⟩ again hag
  refine JE (fun hlt => ?_) (fun hge => ?_)
  · have hlt':k<ks.length:=by simp at hlt;omega
    have hfk:k<fps.length:=by omega
    obtain⟨⟨a,ha,_,hc⟩,hsh⟩:=(hf.ext e).2 k fps[k].1 fps[k].2 (List.getElem?_eq_getElem hfk)
    refine JM ha ⟨by omega,by omega,?_⟩
    refine IL (x:=fps[k].1) (by simpa using hc) ?_
    refine AaA (hs.ext e) hlt' fun x hx => ?_
    refine hsh (Fr.refl _ _) (hl _ (List.getElem_mem hlt')) hx _ fun w2 e2 => ?_
    have hd:(fps.map (·.2)).drop k=fps[k].2 :: (fps.map (·.2)).drop (k+1):=by
      rw[List.drop_eq_getElem_cons (by simpa using hfk)];simp
    rw[hd,FL ks k hlt'] at hp
    simp only[Agl] at hp
    refine JE (fun hb => ?_) (fun hb => ?_)
    · refine RtB _ (leaf hK (e.trans e2) ?_)
      rw[hp];simp at hb;simp[hb]
    · rw[ZS (n:=ks.length) (by omega) (by omega) (by omega)]
      refine hag (m - 1) ((k:Int)+1) w2 (by omega) ⟨e.trans e2,k+1,by omega,by omega,?_⟩
      rw[hp];simp at hb;simp[hb]
  · have hge':k=ks.length:=by simp at hge;omega
    refine RtB _ (leaf hK e ?_)
    rw[hp,List.drop_eq_nil_of_le (by simp;omega),List.drop_eq_nil_of_le (by simp;omega)]
    rfl
theorem ZG{B0 b N:Nat}{w:World}{s:Sl}{fps:List (Fv×(Kd→Bool))}(hbw:b<w.heap.size)(hN:N≤2147483648)(hf:AB B0 b N w s fps){K:Fv→World→Prop}(hK:∀ f w',Ext w w'→WB B0 b N w' f.v (fun _ l=>Agl (fps.map (·.2)) l)→K f w'):YB s K w:=by
  refine AjP _ _ _ ?_
  unfold AiA
  intro a w1 h1
  refine Rt.mk (h:=hFn) ⟨_,#[.pointer (some a)]⟩ (hK _ w1 h1.fr ?_)
  intro w' B n x e hn hr K2 hK2
  refine AoF (by rfl) ?_
  show Afg x a K2 w'
  have ha1:=h1.addr
  have YV:=h1.cells.fr e (by subst ha1;simp;omega)
  refine AhG _ _ _ _ ?_
  unfold Afw
  intro a2 w2 h2
  have hr2:=hr.ext h2.fr
  refine MX h2.cells (Ext.refl _) ?_
  refine AaD (x:=s) (YV.ext h2.fr 0 _ rfl) ?_
  refine PU hr2.kids (fun k h=>by have:=Nd.wt_lt h;omega) (by have:=Nd.wts_length n.kids;have:=n.wts_lt;omega) (((hf.ext h1.fr).set e).ext h2.fr) _ fun w3 e3 => ?_
  exact RtB _ (hK2 _ (h2.fr.trans e3))
end Go.Proofs.YtjiagmjfnbljjaaGreatDoor
end
section
namespace Go.Proofs.YtjiagmjfnbljjaaGreatDoor
open Go
set_option linter.unusedSimpArgs false
set_option linter.unusedVariables false
set_option maxHeartbeats 4000000
theorem AaW{α:Type}(p:α→Bool)(l:List α)(k:Nat)(hk:k<l.length)(h:(l.take k).any p=false)(hp:p l[k] = false):(l.take (k+1)).any p=false:=by
  rw[List.take_succ_eq_append_getElem hk,List.any_append,h]
  simp[hp]
theorem Aj6{α:Type}(p:α→Bool)(l:List α)(k:Nat)(hk:k<l.length)(hp:p l[k] = true):l.any p=true:=
  List.any_eq_true.2 ⟨l[k],List.getElem_mem hk,hp⟩
theorem Ajf{B0 b N:Nat}{w:World}{B:Nat}{ks:List Nd}{l:Sl}{f:Fv}{p:Kd→Bool}(hs:HS w B ks l)(hl:∀ k∈ks,k.wt<N)(hlen:ks.length≤2147483648)(hf:Shp B0 b N w f p):Rdv (VW l f) ((ks.map kd).any p) w:=by
  intro K hK
  refine BD _ _ _ _ ?_
  unfold MC
  refine XC _ _ _ _ ?_
  unfold YQ
  rw[List.any_map] at hK
  have hs1:=hs.1
  refine YE (fun m i w'=>Ext w w'∧∃ k:Nat,i=k∧m+k=ks.length∧(ks.take k).any (p∘kd)=false) ks.length 0 rfl ⟨Ext.refl w,0,rfl,rfl,by simp⟩ ?_
  rintro m i w' ⟨e,k,rfl,hn,hp⟩ again hag
  refine JE (fun hlt => ?_) (fun hge => ?_)
  · have hlt':k<ks.length:=by simp at hlt;omega
    refine AaA (hs.ext e) hlt' fun x hx => ?_
    refine hf e.fr (hl _ (List.getElem_mem hlt')) hx _ fun w2 e2 => ?_
    refine JE (fun hb => ?_) (fun hb => ?_)
    · refine Rt.mk (h:=QC .i64) (k:Int) (RtB _ (leaf hK (e.trans e2) ?_))
      rw[Aj6 (p∘kd) ks k hlt' hb]
      exact decide_eq_true (by omega)
    · rw[ZS (n:=ks.length) (by omega) (by omega) (by omega)]
      exact hag (m - 1) ((k:Int)+1) w2 (by omega) ⟨e.trans e2,k+1,by omega,by omega,AaW (p∘kd) ks k hlt' hp hb⟩
  · have hge':k=ks.length:=by simp at hge;omega
    rw[hge',List.take_length] at hp
    refine Rt.mk (h:=QC .i64) (-1:Int) (RtB _ (leaf hK e ?_))
    rw[hp];rfl
theorem Ahn{B0 b N:Nat}{w:World}{B:Nat}{ks:List Nd}{l:Sl}{f:Fv}{p:Kd→Bool}(hbw:b<w.heap.size)(hs:HS w B ks l)(hl:∀ k∈ks,k.wt<N)(hlen:ks.length≤2147483648)(hf:Shp B0 b N w f p):Rdv (Aak l f) ((ks.map kd).all p) w:=by
  intro K hK
  refine AjN _ _ _ _ ?_
  unfold Aiy
  intro a w1 h1
  have hsh:Shp B0 b N w1 ⟨229,#[.pointer (some a)]⟩ (fun x => !p x):=by
    intro w' B n x e hn hr K2 hK2
    refine AoF (by rfl) ?_
    show Afe x a K2 w'
    have ha1:=h1.addr
    have YV:=h1.cells.fr e (by subst ha1;simp;omega)
    refine AhD _ _ _ _ ?_
    unfold Aft
    intro a2 w2 h2
    have hr2:=hr.ext h2.fr
    refine IL (x:=f) (YV.ext h2.fr 0 _ rfl) ?_
    refine BJ h2.cells (Ext.refl _) ?_
    refine(((Shp.ext hf h1.fr).set e).ext h2.fr) (Fr.refl _ _) hn hr2 _ fun w3 e3 => ?_
    exact RtB _ (hK2 _ (h2.fr.trans e3))
  refine Ajf (p:=fun x => !p x) (hs.ext h1.fr) hl hlen hsh _ fun w2 e2 => ?_
  refine RtB _ (leaf hK (h1.fr.trans e2) ?_)
  rw[List.any_eq_not_all_not];simp
theorem HP{B0 b N:Nat}{w:World}{f:Fv}{p:Kd→Bool}(hbw:b<w.heap.size)(hN:N≤2147483648)(least:Nat)(hf:Shp B0 b N w f p){K:Fv→World→Prop}(hK:∀ g w',Ext w w'→WB B0 b N w' g.v (fun _ l=>decide (l.length≥least) && l.all p)→K g w'):IT least f K w:=by
  refine AjT _ _ _ _ ?_
  unfold AiE
  intro a w1 h1 c w2 h2
  refine Rt.mk (h:=hFn) ⟨_,#[.pointer (some a),.pointer (some c)]⟩ (hK _ w2 (h1.fr.trans h2.fr) ?_)
  intro w' B n x e hn hr K2 hK2
  dsimp only at hK2
  refine Av3 (by rfl) ?_
  show Afi x a c K2 w'
  have ha1:=h1.addr
  have ha2:=h2.addr
  have hz1:=h1.size
  have hc1:=(h1.cells.ext h2.fr).fr e (by subst ha1;simp;omega)
  have hc2:=h2.cells.fr e (by subst ha2;simp;omega)
  have hz2:=e.size
  have hz3:=h2.size
  refine AhL _ _ _ _ _ ?_
  unfold AfB
  intro a2 w3 h3
  have hr2:=hr.ext h3.fr
  have hs:=hr2.kids
  have hs1:=hs.1
  refine MX h3.cells (Ext.refl _) ?_
  refine JO (x:=(least:Int)) (hc1.ext h3.fr 0 _ rfl) ?_
  refine JE (fun hb => ?_) (fun hb => ?_)
  · refine MX h3.cells (Ext.refl _) ?_
    refine IL (x:=f) (hc2.ext h3.fr 0 _ rfl) ?_
    refine Ahn (by have:=h3.size;omega) hs (fun k h=>by have:=Nd.wt_lt h;omega) (by have:=Nd.wts_length n.kids;have:=n.wts_lt;omega) ((((Shp.ext hf h1.fr).ext h2.fr).set e).ext h3.fr) _ fun w4 e4 => ?_
    refine RtB _ (leaf hK2 (h3.fr.trans e4) ?_)
    simp only[decide_eq_true_eq] at hb
    rw[decide_eq_true (by rw[List.length_map];omega)];rfl
  · refine RtB _ (leaf hK2 h3.fr ?_)
    simp only[decide_eq_false_iff_not] at hb
    rw[decide_eq_false (by rw[List.length_map];omega)];rfl
theorem Agr{B0 b N:Nat}{w:World}{s:Sl}{fps:List (Fv×(Kd→Bool))}(hbw:b<w.heap.size)(hlen:fps.length≤2147483648)(hf:AB B0 b N w s fps){K:Fv→World→Prop}(hK:∀ f w',Ext w w'→Shp B0 b N w' f (fun x=>fps.any fun q=>q.2 x)→K f w'):BZ s K w:=by
  refine AmG _ _ _ ?_
  unfold AlL
  intro a w1 h1
  refine Rt.mk (h:=hFn) ⟨_,#[.pointer (some a)]⟩ (hK _ w1 h1.fr ?_)
  intro w' B n x e hn hr K2 hK2
  dsimp only at hK2
  refine AoF (by rfl) ?_
  show Air x a K2 w'
  have ha1:=h1.addr
  have YV:=h1.cells.fr e (by subst ha1;simp;omega)
  refine AjS _ _ _ _ ?_
  unfold AiD
  intro a2 w2 h2
  have hr2:=hr.ext h2.fr
  refine AaD (x:=s) (YV.ext h2.fr 0 _ rfl) ?_
  have hf2:=((hf.ext h1.fr).set e).ext h2.fr
  have hf1:=hf.1
  have hc2:=h2.cells
  have e2:=h2.fr
  clear YV ha1 h1 h2 hr e
  refine HR _ _ _ _ ?_
  unfold GS
  refine IR _ _ _ _ ?_
  unfold DU
  refine YE (fun m i w'=>Ext w2 w'∧∃ k:Nat,i=k∧m+k=fps.length∧(fps.take k).any (fun q=>q.2 (kd n))=false) fps.length 0 rfl ⟨Ext.refl w2,0,rfl,rfl,by simp⟩ ?_
  rintro m i w3 ⟨e,k,rfl,hm,hp⟩ again hag
  refine JE (fun hlt => ?_) (fun hge => ?_)
  · have hfk:k<fps.length:=by simp at hlt;omega
    obtain⟨⟨a,ha,_,hc⟩,hsh⟩:=(hf2.ext e).2 k fps[k].1 fps[k].2 (List.getElem?_eq_getElem hfk)
    refine JM ha ⟨by omega,by omega,?_⟩
    refine IL (x:=fps[k].1) (by simpa using hc) ?_
    refine AoF (by rfl) ?_
    show Afh fps[k].1 a2 _ w3
    refine AhJ _ _ _ _ ?_
    unfold Afz
    refine BJ hc2 e ?_
    refine hsh (Fr.refl _ _) hn (hr2.ext e) _ fun w4 e4 => ?_
    refine RtB _ ?_
    refine JE (fun hb => ?_) (fun hb => ?_)
    · refine Rt.mk (h:=QC .i64) (k:Int) (RtB _ (RtB _ (leaf hK2 (e2.trans (e.trans e4)) ?_)))
      rw[Aj6 (fun q:Fv×(Kd→Bool)=>q.2 (kd n)) fps k hfk hb]
      exact decide_eq_true (by omega)
    · rw[ZS (n:=fps.length) (by omega) (by omega) (by omega)]
      exact hag (m - 1) ((k:Int)+1) w4 (by omega) ⟨e.trans e4,k+1,by omega,by omega,AaW (fun q:Fv×(Kd→Bool)=>q.2 (kd n)) fps k hfk hp hb⟩
  · have hge':k=fps.length:=by simp at hge;omega
    rw[hge',List.take_length] at hp
    refine Rt.mk (h:=QC .i64) (-1:Int) (RtB _ (RtB _ (leaf hK2 (e2.trans e) ?_)))
    rw[hp];rfl
theorem SY{B0 b:Nat}{w:World}{s:Sl}(hbw:b<w.heap.size)(hsb:∀ a,s.a=some a→b<a.block)(ss:List (List UInt8))(hss:ss.length≤2147483648)(hs:KE w (ss.map fun x=>⟨x.toArray⟩) s){K:Fv→World→Prop}(hK:∀ f w',Ext w w'→AfV B0 b w' f.v (fun t=>ss.any (· == t.toList))→K f w'):KL s K w:=by
  refine AjU _ _ _ ?_
  unfold AiF
  intro a w1 h1
  refine Rt.mk (h:=hFn) ⟨_,#[.pointer (some a)]⟩ (hK _ w1 h1.fr ?_)
  intro w' t e ht K2 hK2
  dsimp only at hK2
  refine AoF (by rfl) ?_
  show Afj t a K2 w'
  have ha1:=h1.addr
  have YV:=h1.cells.fr e (by subst ha1;simp;omega)
  refine AhN _ _ _ _ ?_
  unfold AfD
  refine AfH (x:=s) (YV 0 _ rfl) ?_
  have hs2:KE w' (ss.map fun x=>⟨x.toArray⟩) s:=⟨hs.1,fun i t hi=>let ⟨a,ha,hc⟩:=(hs.ext h1.fr).2 i t hi;⟨a,ha,e.cell (by rw[AhT];have:=hsb a ha;omega) hc⟩⟩
  refine KB _ _ _ _ ?_
  unfold HY
  refine HW _ _ _ _ ?_
  unfold MZ
  rw[← AlP] at hK2
  have hlen:(ss.map fun x=>(⟨x.toArray⟩:ByteArray)).length=ss.length:=by simp
  generalize (ss.map fun x=>(⟨x.toArray⟩:ByteArray))=us at hs2 hK2 hlen
  have hs1:=hs2.1
  refine YE (fun n i w2=>w2=w'∧∃ k:Nat,i=k∧n+k=us.length∧(us.take k).any (fun x=>x.toList==t.toList)=false) us.length 0 rfl ⟨rfl,0,rfl,rfl,by simp⟩ ?_
  rintro n i w2 ⟨rfl,k,rfl,hn,hp⟩ again hag
  refine JE (fun hlt => ?_) (fun hge => ?_)
  · have hlt':k<us.length:=by simp at hlt;omega
    obtain⟨a',ha,hc⟩:=hs2.2 k us[k] (List.getElem?_eq_getElem hlt')
    refine JM ha ⟨by omega,by omega,?_⟩
    refine YS (x:=us[k]) (by simpa using hc) ?_
    refine JE (fun hb => ?_) (fun hb => ?_)
    · refine Rt.mk (h:=QC .i64) (k:Int) (RtB _ (RtB _ (leaf hK2 (Ext.refl _) ?_)))
      rw[Aj6 (fun x:ByteArray=>x.toList==t.toList) us k hlt' (by rw[beq_iff_eq] at hb ⊢;exact hb.symm)]
      exact decide_eq_true (by omega)
    · rw[ZS (n:=us.length) (by omega) (by omega) (by omega)]
      refine hag (n - 1) ((k:Int)+1) w2 (by omega) ⟨rfl,k+1,by omega,by omega,AaW (fun x:ByteArray=>x.toList==t.toList) us k hlt' hp ?_⟩
      rw[beq_eq_false_iff_ne] at hb ⊢;exact hb.symm
  · have hge':k=us.length:=by simp at hge;omega
    rw[hge',List.take_length] at hp
    refine Rt.mk (h:=QC .i64) (-1:Int) (RtB _ (RtB _ (leaf hK2 (Ext.refl _) ?_)))
    rw[hp];rfl
theorem ZE{B0 b:Nat}{w:World}:AfV B0 b w (Fv.v ⟨123,#[]⟩) (fun t=>t.toList == []):=fun _ t e ht K hK=>AfX (by rfl) (AhH _ _ _ (by
  unfold Afx
  rw[BF]
  exact RtB _ (hK _ (Ext.refl _))))
theorem KQ{B0 b:Nat}{w:World}:AfV B0 b w (Fv.v ⟨134,#[]⟩) OS:=fun _ t e ht K hK=>AfX (by rfl) (Aac t ht K hK)
theorem Aq2{b B0:Nat}{w:World}(hbB:B0≤b)(hV:VOk B0 w):AfV B0 b w (Fv.v ⟨186,#[]⟩) MD:=fun _ t e ht K hK=>AfX (by rfl) (Agv _ _ _ (by
  unfold AdK
  refine hV t (e.mono fun i _ hi=>by omega) ht _ fun w2 e2 => ?_
  exact RtB _ (hK _ e2)))
theorem Alf{B0 b:Nat}{w:World}:AfV B0 b w (Fv.v ⟨138,#[]⟩) (fun t=>t.toList == [] || OS t):=fun _ t e ht K hK=>AfX (by rfl) (Aci _ _ _ (by
  unfold RW
  rw[BF]
  refine JE (fun hb => ?_) (fun hb => ?_)
  · exact RtB _ (leaf hK (Ext.refl _) (by dsimp only;rw[hb];rfl))
  · refine Aac t ht _ fun w2 e2 => ?_
    exact RtB _ (leaf hK e2 (by dsimp only;rw[hb];rfl))))
end Go.Proofs.YtjiagmjfnbljjaaGreatDoor
end
section
namespace Go.Proofs.YtjiagmjfnbljjaaGreatDoor
open Go
set_option linter.unusedSimpArgs false
set_option linter.unusedVariables false
set_option maxHeartbeats 4000000
set_option linter.unusedSectionVars false
theorem AcX(p:Kd→Bool)(l:List Kd):Agl [p] l=Ads p l:=by
  rcases l with _ | ⟨a,_ | ⟨b,r⟩⟩<;>simp[Agl,Ads]
theorem AcY(p q:Kd→Bool)(l:List Kd):Agl [p,q] l=Adt p q l:=by
  rcases l with _ | ⟨a,_ | ⟨b,_ | ⟨c,r⟩⟩⟩<;>simp[Agl,Adt]
theorem ApR(p q r:Kd→Bool)(l:List Kd):Agl [p,q,r] l=AkR p q r l:=by
  rcases l with _ | ⟨a,_ | ⟨b,_ | ⟨c,_ | ⟨d,r⟩⟩⟩⟩<;>simp[Agl,AkR,Bool.and_assoc]
theorem AkT(l:List Kd):Agl [] l=l.isEmpty:=by cases l<;>rfl
theorem Ape{ks:List Nd}(h:1<ks.length):Aon (ks.map kd)=(kBl (kd (ks[0]'(by omega))) && CE ((ks.drop 1).map kd)):=by
  rcases ks with _ | ⟨k0,_ | ⟨k1,r⟩⟩
  · simp at h
  · simp at h
  · rfl
theorem Aly(g:Bool)(p:Nd)(r:List Kd):OU g (kd p :: r)=(p.kind==19 && right MD p && match p.kids with
    | []=>r.isEmpty
    | d :: _=>if d.kind==0 then !g && OU g r else OU true r):=rfl
theorem Akh(p:Nd)(r:List Kd):CE (kd p :: r)=(p.kind==22 && right MD p && (match p.kids with
    | d :: _ => !(d.kind==0) || r.isEmpty
    | []=>true) && CE r):=rfl
theorem JW{D:Nat→Prop}{b:Nat}{w w':World}(h:b<w.heap.size)(e:Fr D w w'):b<w'.heap.size:=Nat.lt_of_lt_of_le h e.size
section
variable{b B0 N:Nat}{w:World}(hbB:B0≤b)(hbw:b<w.heap.size)(hR:AT B0 N w)(hN:N≤2147483648)
include hbB hbw hR hN
omit hN in
theorem BT{w0:World}{a:Addr}(h:LG w (.cells #[.func (.func 131) #[] #[],.func (.func 128) #[] #[]] 142) a w0){K:Fv→World→Prop}(hK:∀ f w',Ext w0 w'→Shp B0 b N w' f NE→K f w'):BZ ⟨some a,2,2⟩ K w0:=by
  refine Agr (B0:=B0) (b:=b) (N:=N) (fps:=[(⟨131,#[]⟩,Ag8),(⟨128,#[]⟩,kEx)]) (JW hbw h.fr) (by decide) (AB.made hbw _ h rfl rfl ?_) fun f w' e hf=>hK f w' e ?_
  · intro f p hm
    simp only[List.mem_cons,Prod.mk.injEq,List.not_mem_nil,or_false] at hm
    rcases hm with⟨rfl,rfl⟩ | ⟨rfl,rfl⟩
    · exact Aoa
    · exact YG hbB hR
  · have:(fun x=>([(⟨131,#[]⟩,Ag8),(⟨128,#[]⟩,kEx)]:List (Fv×(Kd→Bool))).any fun q=>q.2 x)=NE:=by
      funext x;simp[NE]
    rw[← this];exact hf
omit hN in
theorem Aib{w0:World}{a:Addr}(h:LG w (.cells #[.func (.func 131) #[] #[],.func (.func 132) #[] #[]] 142) a w0){K:Fv→World→Prop}(hK:∀ f w',Ext w0 w'→Shp B0 b N w' f Akv→K f w'):BZ ⟨some a,2,2⟩ K w0:=by
  refine Agr (B0:=B0) (b:=b) (N:=N) (fps:=[(⟨131,#[]⟩,Ag8),(⟨132,#[]⟩,kBl)]) (JW hbw h.fr) (by decide) (AB.made hbw _ h rfl rfl ?_) fun f w' e hf=>hK f w' e ?_
  · intro f p hm
    simp only[List.mem_cons,Prod.mk.injEq,List.not_mem_nil,or_false] at hm
    rcases hm with⟨rfl,rfl⟩ | ⟨rfl,rfl⟩
    · exact Aoa
    · exact TC hbB hR
  · have:(fun x=>([(⟨131,#[]⟩,Ag8),(⟨132,#[]⟩,kBl)]:List (Fv×(Kd→Bool))).any fun q=>q.2 x)=Akv:=by
      funext x;simp[Akv]
    rw[← this];exact hf
theorem AoQ:WB B0 b N w (Fv.v ⟨136,#[]⟩) (fun _ l=>l.isEmpty || Ads NE l):=by
  intro w' B n x e hn hr K hK
  dsimp only at hK
  refine AfX (by rfl) ?_
  show AgE x K w'
  refine Ajb _ _ _ ?_
  unfold AgU
  intro a1 w1 h1 w2 h2
  have e12:=h1.fr.trans h2.fr
  have hr2:=hr.ext e12
  have hs:=hr2.kids
  have hs1:=hs.1
  refine⟨fun w'=>Ext w2 w',Ext.refl _,?_⟩
  refine ZY (x:=x.Kids) (fun w' e=>YV h1.cells (h2.fr.trans e) 5 rfl) ?_
  refine JE (fun hb => ?_) (fun hb => ?_)
  · refine⟨Ext.refl _,Ext.refl _,Ext.refl _,RtB _ (leaf hK e12 ?_)⟩
    have:n.kids = []:=List.length_eq_zero_iff.1 (by simp at hb;omega)
    rw[this];rfl
  · refine ZY (x:=x.Kids) (fun w' e=>YV h1.cells (h2.fr.trans e) 5 rfl) ?_
    intro a3 w3 h3
    refine⟨h3.fr,?_⟩
    refine BT hbB (JW (JW hbw e) e12) ((hR.at_ hbB e).ext e12) h3 fun f w4 e4 hf => ?_
    refine⟨h3.fr.trans e4,?_⟩
    intro a5 w5 h5
    have e25:=h3.fr.trans (e4.trans h5.fr)
    refine⟨e25,?_⟩
    refine PU (B0:=B0) (b:=b) (N:=N) (fps:=[(f,NE)]) (hs.ext e25) (fun k h=>by have:=Nd.wt_lt h;omega) (by have:=Nd.wts_length n.kids;have:=n.wts_lt;omega) (AB.made (JW (JW (JW hbw e) e12) (h3.fr.trans e4)) _ h5 rfl rfl ?_) _ fun w6 e6 => ?_
    · intro g p hm
      simp only[List.mem_cons,Prod.mk.injEq,List.not_mem_nil,or_false] at hm
      obtain⟨rfl,rfl⟩:=hm
      exact hf
    refine RtB _ (leaf hK (e12.trans (e25.trans e6)) ?_)
    have:(n.kids.map kd).isEmpty=false:=by
      cases hk:n.kids with
      | nil=>simp[hk] at hs1;simp[hs1] at hb
      | cons a r=>rfl
    rw[this]
    simp[AcX]
theorem AnN:WB B0 b N w (Fv.v ⟨139,#[]⟩) (fun t l=>Adt NE kBl l && (t.toList == [] || (OS t && !(match l with | d :: _=>d.1.kind==0 | []=>true)))):=by
  intro w' B n x e hn hr K hK
  dsimp only at hK
  refine AfX (by rfl) ?_
  show Aff x K w'
  refine AhE _ _ _ ?_
  unfold Afu
  intro a1 w1 h1 w2 h2
  have e12:=h1.fr.trans h2.fr
  have hr2:=hr.ext e12
  have hs:=hr2.kids
  have hs1:=hs.1
  have htx:n.text.size≤2147483648:=by have:=n.text_lt;omega
  have hc:=h1.cells.ext h2.fr
  refine⟨fun w'=>Ext w2 w',Ext.refl _,?_⟩
  refine ZY (x:=x.Kids) (fun w' e=>YV hc e 5 rfl) ?_
  intro a3 w3 h3
  refine⟨h3.fr,?_⟩
  refine BT hbB (JW (JW hbw e) e12) ((hR.at_ hbB e).ext e12) h3 fun f w4 e4 hf => ?_
  refine⟨h3.fr.trans e4,?_⟩
  intro a5 w5 h5
  have e25:=h3.fr.trans (e4.trans h5.fr)
  refine⟨e25,?_⟩
  refine PU (B0:=B0) (b:=b) (N:=N) (fps:=[(f,NE),(⟨132,#[]⟩,kBl)]) (hs.ext e25) (fun k h=>by have:=Nd.wt_lt h;omega) (by have:=Nd.wts_length n.kids;have:=n.wts_lt;omega) (AB.made (JW (JW (JW hbw e) e12) (h3.fr.trans e4)) _ h5 rfl rfl ?_) _ fun w6 e6 => ?_
  · intro g p hm
    simp only[List.mem_cons,Prod.mk.injEq,List.not_mem_nil,or_false] at hm
    rcases hm with⟨rfl,rfl⟩ | ⟨rfl,rfl⟩
    · exact hf
    · exact TC hbB ((hR.at_ hbB e).ext (e12.trans (h3.fr.trans e4)))
  have e26:=e25.trans e6
  have e06:=e12.trans e26
  simp only[List.map_cons,List.map_nil,AcY]
  refine⟨fun w'=>Ext w6 w',Ext.refl _,?_⟩
  refine JE (fun hb => ?_) (fun hb => ?_)
  · rw[hb,Bool.true_and] at hK
    have htext:x.Text=n.text:=hr2.text
    refine YO (x:=n.text) (fun w' e=>by rw[← htext];exact YV hc (e26.trans e) 2 rfl) ?_
    rw[BF]
    refine JE (fun hb2 => ?_) (fun hb2 => ?_)
    · exact⟨fun w'=>Ext w6 w',Ext.refl _,RtB _ (leaf hK e06 (by rw[hb2];rfl))⟩
    · refine YO (x:=n.text) (fun w' e=>by rw[← htext];exact YV hc (e26.trans e) 2 rfl) ?_
      refine Aac n.text htx _ fun w7 e7 => ?_
      refine⟨fun w'=>Ext w7 w',Ext.refl _,?_⟩
      rw[hb2,Bool.false_or] at hK
      refine JE (fun hb3 => ?_) (fun hb3 => ?_)
      · rw[hb3,Bool.true_and] at hK
        refine ZY (x:=x.Kids) (fun w' e=>YV hc (e26.trans (e7.trans e)) 5 rfl) ?_
        rcases hk:n.kids with _ | ⟨k0,r⟩
        · rw[hk] at hb;simp[Adt] at hb
        · rw[hk] at hs hK
          obtain⟨a,y,ha,hbk,hcc,hy⟩:=hs.get (i:=0) (by simp)
          have hn1:=hs.1
          simp at hn1
          refine JM ha ⟨by omega,by omega,?_⟩
          refine JV (x:=k0.kind) (fun w' e => ?_) ?_
          · have:=YV hcc (e26.trans (e7.trans e)) 0 rfl
            rw[hy.kind] at this
            simpa [JP] using this
          · exact RtB _ (leaf hK (e06.trans e7) rfl)
      · exact RtB _ (leaf hK (e06.trans e7) (by rw[hb3];rfl))
  · refine⟨fun w'=>Ext w6 w',Ext.refl _,RtB _ (leaf hK e06 (by rw[hb];rfl))⟩
theorem WH{f:Fv}{p:Kd→Bool}(hf:Shp B0 b N w f p){K:Fv→World→Prop}(hK:∀ g w',Ext w w'→WB B0 b N w' g.v (fun _ l=>Ag1 p l)→K g w'):Aaj f K w:=by
  refine AjL _ _ _ ?_
  unfold Aix
  intro a w1 h1
  refine Rt.mk (h:=hFn) ⟨_,#[.pointer (some a)]⟩ (hK _ w1 h1.fr ?_)
  clear hK K
  intro w' B n x e hn hr K hK
  dsimp only at hK
  refine AoF (by rfl) ?_
  show Afd x a K w'
  have ha1:=h1.addr
  have hcell1:=h1.cells.fr e (by subst ha1;simp;omega)
  have hR':=(hR.ext h1.fr).at_ hbB e
  have hf':=(Shp.ext hf h1.fr).set e
  have hbw':=JW (JW hbw h1.fr) e
  refine AhC _ _ _ _ ?_
  unfold Afs
  intro a1 w1 h1 w2 h2
  have e12:=h1.fr.trans h2.fr
  have hr2:=hr.ext e12
  have hs:=hr2.kids
  have hs1:=hs.1
  have hc:=h1.cells.ext h2.fr
  have hlt:∀ k∈n.kids,k.wt<N:=fun k h=>by have:=Nd.wt_lt h;omega
  have hlen:n.kids.length≤2147483648:=by have:=Nd.wts_length n.kids;have:=n.wts_lt;omega
  refine⟨fun w'=>Ext w2 w',Ext.refl _,?_⟩
  refine ZY (x:=x.Kids) (fun w' e=>YV hc e 5 rfl) ?_
  refine JE (fun hb => ?_) (fun hb => ?_)
  · have h3:3≤n.kids.length:=by simp at hb;omega
    refine ZY (x:=x.Kids) (fun w' e=>YV hc e 5 rfl) ?_
    obtain⟨hu,_,i,z,hi,hsz,_⟩:=NP
    refine VQ (h:=hSl) (x.Kids.to_ 3) (fun w' _=>AcC (h:=3) hu hi x.Kids (by omega) (by have:=hs.2.1;omega)) ?_
    refine Ag9 (x:=f) (fun w' e=>hcell1.ext (e12.trans e) 0 _ rfl) ?_
    intro a3 w3 h3'
    refine⟨h3'.fr,?_⟩
    have e23:=h3'.fr
    refine PU (B0:=B0) (b:=b) (N:=N) (ks:=n.kids.take 3) (fps:=[(f,p),(⟨133,#[]⟩,kTs),(⟨128,#[]⟩,kEx)]) ((hs.ext e23).to_ h3) (fun k h=>hlt k (List.mem_of_mem_take h)) (by simp;omega) (AB.made (JW hbw' e12) _ h3' rfl rfl ?_) _ fun w4 e4 => ?_
    · intro g q hm
      simp only[List.mem_cons,Prod.mk.injEq,List.not_mem_nil,or_false] at hm
      rcases hm with⟨rfl,rfl⟩ | ⟨rfl,rfl⟩ | ⟨rfl,rfl⟩
      · exact Shp.ext hf' e12
      · exact AiR hbB (hR'.ext e12)
      · exact YG hbB (hR'.ext e12)
    have e24:=e23.trans e4
    simp only[List.map_cons,List.map_nil,ApR]
    have hcomp:Ag1 p (n.kids.map kd)=(AkR p kTs kEx ((n.kids.take 3).map kd) && ((n.kids.drop 3).map kd).all kEx):=by
      clear hc hs hs1 hr hr2 hlt hlen hK
      generalize n.kids=ks at h3 ⊢
      rcases ks with _ | ⟨k0,_ | ⟨k1,_ | ⟨k2,r⟩⟩⟩
      · simp at h3
      · simp at h3
      · simp at h3
      · simp[Ag1,AkR]
    rw[hcomp] at hK
    refine⟨fun w'=>Ext w4 w',Ext.refl _,?_⟩
    refine JE (fun hb => ?_) (fun hb => ?_)
    · rw[hb,Bool.true_and] at hK
      refine ZY (x:=x.Kids) (fun w' e=>YV hc (e24.trans e) 5 rfl) ?_
      refine VQ (h:=hSl) (x.Kids.from_ 3 6) (fun w' _ => ?_) ?_
      · have:=WS (P:=PP) (w:=w') hu hi x.Kids 3 (by omega) (by omega)
        rw[hsz] at this;exact this
      refine Ahn (B0:=B0) (b:=b) (JW (JW hbw' e12) e24) ((hs.ext e24).from_ h3) (fun k h=>hlt k (List.mem_of_mem_drop h)) (by simp;omega) (YG hbB (hR'.ext (e12.trans e24))) _ fun w5 e5 => ?_
      exact RtB _ (hK _ (e12.trans (e24.trans e5)))
    · exact RtB _ (leaf hK (e12.trans e24) (by rw[hb];rfl))
  · refine⟨Ext.refl _,fun w'=>Ext w2 w',Ext.refl _,RtB _ (leaf hK e12 ?_)⟩
    have h3:n.kids.length<3:=by simp at hb;omega
    clear hc hs hs1 hr hr2 hlt hlen hK
    generalize n.kids=ks at h3 ⊢
    rcases ks with _ | ⟨k0,_ | ⟨k1,_ | ⟨k2,r⟩⟩⟩
    · rfl
    · rfl
    · rfl
    · simp at h3;omega
omit hbB hbw hN in
theorem Ale{B:Nat}{ks:List Nd}{l:Sl}(hso:HS w B ks l)(hl:∀ k∈ks,k.wt<N)(hlen:ks.length≤2147483647):Rdv (AaU l) (OU false (ks.map kd)) w:=by
  intro K hK0
  refine AhK _ _ _ ?_
  unfold AfA
  have hs1:=hso.1
  generalize hs0:OU false (ks.map kd)=s at hK0
  refine YE (fun m x w'=>Ext w w'∧∃ k:Nat,x.2=k∧m+k=ks.length∧OU x.1 ((ks.map kd).drop k)=s) ks.length (false,0) rfl ⟨Ext.refl _,0,rfl,rfl,hs0⟩ ?_
  rintro m ⟨g,i⟩ w' ⟨e,k,rfl,hn,hp⟩ again hag
  have hw1:IntKind.i64.wrap ((k:Int)+1)=(k:Int)+1:=JY (by omega) (by omega)
  simp only
  refine JE (fun hlt => ?_) (fun hge => ?_)
  · have hlt':k<ks.length:=by simp at hlt;omega
    rw[FL ks k hlt',Aly] at hp
    have hemp:((ks.map kd).drop (k+1)).isEmpty=decide (k+1=ks.length):=by
      by_cases h:k+1=ks.length
      · have:(ks.map kd).drop (k+1) = []:=List.drop_eq_nil_of_le (by simp;omega)
        rw[this];simp[h]
      · rw[FL _ _ (by omega)];simp[h]
    have hwt:ks[k].wt<N:=hl _ (List.getElem_mem hlt')
    refine AaA (hso.ext e) hlt' fun x hx => ?_
    have next:∀ g' w'',Ext w w''→OU g' ((ks.map kd).drop (k+1))=s→again [.bool g',.int .i64 ((k:Int)+1)] w'':=fun g' w'' e hb=>hag (m - 1) (g',(k:Int)+1) w'' (by omega) ⟨e,k+1,by simp,by omega,hb⟩
    clear hag
    generalize (ks.map kd).drop (k+1)=rest at hp hemp next
    generalize ks[k] = p at hx hp hwt
    intro a9 w9 h9
    have ha:=h9.addr
    subst ha
    have hsz:=e.size
    refine XH h9.get (by decide) fun w1 h1 => ?_
    have e1:Ext w w1:=(e.trans h9.fr).set hsz h1
    have e91:Ext w' w1:=h9.fr.set (Nat.le_refl _) h1
    have hc:JD w1 ⟨w'.heap.size,0,none⟩ x.cells.toList:=JD.all (h1.get (ZC h9.get))
    have hr:Rep w1 B p x:=hx.ext e91
    have hK:∀ w',Ext w1 w'→K s w':=fun w' e=>hK0 w' (e1.trans e)
    replace next:∀ g' w'',Ext w1 w''→OU g' rest=s→again [.bool g',.int .i64 ((k:Int)+1)] w'':=fun g' w'' e hb=>next g' w'' (e1.trans e) hb
    have hR1:=hR.ext e1
    clear hx h1 h9 e91 e1 e hK0 hsz hR
    have e:=Ext.refl w1
    obtain⟨s1,s2,rfl,hm,hs⟩:=hr.eq
    unfold Abr
    simp only[hw1]
    have hs2:=hs.1
    have hwr:IntKind.i64.wrap ((l.n:Int) - 1)=(l.n:Int) - 1:=JY (by omega) (by omega)
    rw[hwr]
    repeat' first
      | (with_reducible refine FX hc e ?_)
      | (with_reducible refine MX hc e ?_)
      | (with_reducible refine BJ hc e ?_)
      | (with_reducible refine JE (fun hb => ?_) (fun hb => ?_)<;>(try simp only[beq_iff_eq,bne_iff_ne,decide_eq_true_eq,Bool.not_eq_true',decide_eq_false_iff_not,beq_eq_false_iff_ne,bne_eq_false_iff_eq,Bool.not_eq_false',ne_eq] at hb))
      | (refine hR1 (Ext.fr e) hwt (hr.ext e) _ fun w2 e2 => ?_;replace e:=e.trans e2)
      | (refine AiN (hs.ext e) (by omega) (fun k hk => ?_))
      | (refine next _ _ e ?_)
      | (with_reducible refine RtB _ (leaf hK e ?_))
    all_goals (clear hK next hc e hr hs hm hso hl hs0 hR1;subst hp;rcases hk:p.kids with _ | ⟨k0,r⟩<;>have hkl:=congrArg List.length hk<;>simp only[List.length_cons,List.length_nil] at hkl)
    all_goals first
      | (exfalso;(try dsimp only at *);omega)
      | (simp_all;done)
      | (have hh:((k:Int)==(l.n:Int) - 1)=decide (k+1=ks.length):=by
           rw[Bool.eq_iff_iff];simp only[beq_iff_eq,decide_eq_true_eq];omega
         rw[hh,hemp];simp_all;done)
  · have hge':k=ks.length:=by simp at hge;omega
    have:(ks.map kd).drop k = []:=List.drop_eq_nil_of_le (by simp;omega)
    rw[this] at hp
    exact RtB _ (leaf hK0 e hp)
theorem ArM(hN:N≤2147483647):WB B0 b N w (Fv.v ⟨135,#[]⟩) (fun _ l=>AnB l):=by
  intro w' B n x e0 hn hr K hK
  dsimp only at hK
  refine AfX (by rfl) ?_
  show AjM x K w'
  refine Aln _ _ _ ?_
  unfold AjY
  intro a1 w1 h1
  have hc:=h1.cells
  have hr1:=hr.ext h1.fr
  have hs:=hr1.kids
  have hs1:=hs.1
  have hR1:=(hR.at_ hbB e0).ext h1.fr
  have hlt:∀ k∈n.kids,k.wt<N:=fun k h=>by have:=Nd.wt_lt h;omega
  have hlen:n.kids.length≤2147483647:=by have:=Nd.wts_length n.kids;have:=n.wts_lt;omega
  refine MX hc (Ext.refl _) ?_
  rw[JY (x:=(x.Kids.n:Int) - 1) (by omega) (by omega)]
  refine JE (fun hb => ?_) (fun hb => ?_)
  · have hpos:0<n.kids.length:=by simp at hb;omega
    have hdef:AnB (n.kids.map kd)=(OU false (n.kids.dropLast.map kd) && kBl (kd n.kids[n.kids.length - 1])):=by
      unfold AnB
      rw[List.getLast?_eq_getElem?,List.length_map,List.getElem?_map,List.getElem?_eq_getElem (by omega),List.map_dropLast]
      rfl
    rw[hdef] at hK
    have hlo:((x.Kids.n:Int) - 1)=((n.kids.length - 1:Nat):Int):=by omega
    rw[hlo]
    refine MX hc (Ext.refl _) ?_
    refine ApY NP (by omega) (by have:=hs.2.1;omega) ?_
    refine Ale hR1 (B:=B) (ks:=n.kids.dropLast) ?_ (fun k h=>hlt k ((List.dropLast_sublist _).subset h)) (by simp;omega) _ fun w2 e2 => ?_
    · have:=hs.to_ (hi:=n.kids.length - 1) (by omega)
      rw[List.dropLast_eq_take]
      simpa using this
    refine JE (fun hb2 => ?_) (fun hb2 => ?_)
    · rw[hb2,Bool.true_and] at hK
      refine MX hc e2 ?_
      refine AaA (hs.ext e2) (by omega) fun y hy => ?_
      refine Aa6 (hR1.ext e2) hy (hlt _ (List.getElem_mem _)) _ fun w3 e3 => ?_
      exact RtB _ (hK _ (h1.fr.trans (e2.trans e3)))
    · exact RtB _ (leaf hK (h1.fr.trans e2) (by rw[hb2];rfl))
  · have hz:n.kids = []:=List.length_eq_zero_iff.1 (by simp at hb;omega)
    rw[hz] at hK
    exact RtB _ (leaf hK h1.fr rfl)
theorem ArN(hN:N≤2147483647):WB B0 b N w (Fv.v ⟨137,#[]⟩) (fun _ l=>Aon l):=by
  intro w' B n x e0 hn hr K hK0
  dsimp only at hK0
  refine AfX (by rfl) ?_
  show AjV x K w'
  refine Alq _ _ _ ?_
  unfold Aj0
  intro a1 wb h1
  have hcn:=h1.cells
  have hr1:=hr.ext h1.fr
  have hsn:=hr1.kids
  have hs1:=hsn.1
  have hRb:=(hR.at_ hbB e0).ext h1.fr
  have hl:∀ k∈n.kids,k.wt<N:=fun k h=>by have:=Nd.wt_lt h;omega
  have hlen:n.kids.length≤2147483647:=by have:=Nd.wts_length n.kids;have:=n.wts_lt;omega
  replace hK0:∀ w'',Ext wb w''→K (Aon (n.kids.map kd)) w'':=fun w'' e=>hK0 _ (h1.fr.trans e)
  refine MX hcn (Ext.refl _) ?_
  refine JE (fun hb => ?_) (fun hb => ?_)
  · have:n.kids.length<2:=by simp at hb;omega
    refine RtB _ (leaf hK0 (Ext.refl _) ?_)
    generalize n.kids=ks at this ⊢
    rcases ks with _ | ⟨k0,_ | ⟨k1,r⟩⟩
    · rfl
    · rfl
    · simp at this;omega
  have hpos:1<n.kids.length:=by simp at hb;omega
  refine MX hcn (Ext.refl _) ?_
  refine AnK hsn (by omega) fun y hy => ?_
  refine Aa6 hRb hy (hl _ (List.getElem_mem _)) _ fun w2 e2 => ?_
  have htry:=Ape hpos
  rw[htry] at hK0
  refine JE (fun hb2 => ?_) (fun hb2 => ?_)
  · exact RtB _ (leaf hK0 e2 (by simp at hb2;simp[hb2]))
  simp only[Bool.not_eq_false'] at hb2
  rw[hb2,Bool.true_and] at hK0
  unfold AfE
  refine MX hcn e2 ?_
  refine Ag7 NP (by omega) (by omega) ?_
  have hso:=(hsn.ext e2).from_ (lo:=1) (by omega)
  have hso1:=hso.1
  generalize hks:n.kids.drop 1=ks at hK0 hso hso1
  have hksl:ks.length+1=n.kids.length:=by rw[← hks];simp;omega
  have hlk:∀ k∈ks,k.wt<N:=fun k h=>hl k (List.mem_of_mem_drop (by rw[hks];exact h))
  have hff:x.Kids.from_ (1:Int).toNat 6=x.Kids.from_ 1 6:=rfl
  rw[hff]
  generalize x.Kids.from_ 1 6=l at hso hso1 ⊢
  generalize hs0:CE (ks.map kd)=s at hK0
  refine YE (fun m x w'=>Ext w2 w'∧∃ k:Nat,x=k∧m+k=ks.length∧CE ((ks.map kd).drop k)=s) ks.length 0 rfl ⟨Ext.refl _,0,rfl,rfl,hs0⟩ ?_
  rintro m i w' ⟨e,k,rfl,hn,hp⟩ again hag
  have hw1:IntKind.i64.wrap ((k:Int)+1)=(k:Int)+1:=JY (by omega) (by omega)
  refine JE (fun hlt => ?_) (fun hge => ?_)
  · have hlt':k<ks.length:=by simp at hlt;omega
    rw[FL ks k hlt',Akh] at hp
    have hemp:((ks.map kd).drop (k+1)).isEmpty=decide (k+1=ks.length):=by
      by_cases h:k+1=ks.length
      · have:(ks.map kd).drop (k+1) = []:=List.drop_eq_nil_of_le (by simp;omega)
        rw[this];simp[h]
      · rw[FL _ _ (by omega)];simp[h]
    have hwt:ks[k].wt<N:=hlk _ (List.getElem_mem (by omega))
    refine AaA (hso.ext e) (by omega) fun y hx => ?_
    have next:∀ w'',Ext w2 w''→CE ((ks.map kd).drop (k+1))=s→again [.int .i64 ((k:Int)+1)] w'':=fun w'' e hb=>hag (m - 1) ((k:Int)+1) w'' (by omega) ⟨e,k+1,by simp,by omega,hb⟩
    clear hag
    generalize (ks.map kd).drop (k+1)=rest at hp hemp next
    generalize ks[k] = p at hx hp hwt
    intro a9 w9 h9
    have ha:=h9.addr
    subst ha
    have hsz:=e.size
    refine XH h9.get (by decide) fun w1 h1 => ?_
    have e1:Ext w2 w1:=(e.trans h9.fr).set hsz h1
    have e91:Ext w' w1:=h9.fr.set (Nat.le_refl _) h1
    have hc:JD w1 ⟨w'.heap.size,0,none⟩ y.cells.toList:=JD.all (h1.get (ZC h9.get))
    have hr:Rep w1 B p y:=hx.ext e91
    have hK:∀ w',Ext w1 w'→K s w':=fun w' e=>hK0 w' (e2.trans (e1.trans e))
    replace next:∀ w'',Ext w1 w''→CE rest=s→again [.int .i64 ((k:Int)+1)] w'':=fun w'' e hb=>next w'' (e1.trans e) hb
    have hR1:=hRb.ext (e2.trans e1)
    have hcn1:=hcn.ext (e2.trans e1)
    clear hx h1 h9 e91 e1 e hK0 hsz hR hRb hso hsn hr1 hcn hy
    have e:=Ext.refl w1
    obtain⟨s1,s2,rfl,hm,hs⟩:=hr.eq
    simp only[hw1]
    have hs2:=hs.1
    have hwr:IntKind.i64.wrap ((x.Kids.n:Int) - 2)=(x.Kids.n:Int) - 2:=JY (by omega) (by omega)
    have h22:p.kind=22→right MD p=true→0<p.kids.length:=fun hk hrt=>by
      rw[CJ,Ao4 hk] at hrt
      rcases hkk:p.kids with _ | ⟨k0,r⟩
      · rw[hkk] at hrt;simp[Adt] at hrt
      · simp
    repeat' first
      | (with_reducible refine FX hc e ?_)
      | (with_reducible refine MX hc e ?_)
      | (with_reducible refine BJ hc e ?_)
      | (with_reducible refine JE (fun hb => ?_) (fun hb => ?_)<;>(try simp only[beq_iff_eq,bne_iff_ne,decide_eq_true_eq,Bool.not_eq_true',decide_eq_false_iff_not,beq_eq_false_iff_ne,bne_eq_false_iff_eq,Bool.not_eq_false',ne_eq] at hb))
      | (refine hR1 (Ext.fr e) hwt (hr.ext e) _ fun w2 e2 => ?_;replace e:=e.trans e2)
      | (refine AiN (hs.ext e) (h22 (by assumption) (by assumption)) (fun k hk => ?_))
      | (refine next _ e ?_)
      | (with_reducible refine MX hcn1 e ?_;simp only[hwr])
      | (with_reducible refine RtB _ (leaf hK e ?_))
    all_goals (clear hK next hc e hr hs hm hs0 hR1 h22 hcn1;subst hp;rcases hk:p.kids with _ | ⟨k0,r⟩<;>have hkl:=congrArg List.length hk<;>simp only[List.length_cons,List.length_nil] at hkl)
    all_goals first
      | (simp_all;done)
      | (have hne:rest.isEmpty=false:=by rw[hemp,decide_eq_false_iff_not];omega
         simp_all;done)
      | (have hne:rest.isEmpty=true:=by rw[hemp,decide_eq_true_eq];omega
         simp_all;done)
      | skip
  · have hge':k=ks.length:=by simp at hge;omega
    have:(ks.map kd).drop k = []:=List.drop_eq_nil_of_le (by simp;omega)
    rw[this] at hp
    exact RtB _ (leaf hK0 (e2.trans e) hp)
end
end Go.Proofs.YtjiagmjfnbljjaaGreatDoor
end
section
namespace Go.Proofs.YtjiagmjfnbljjaaGreatDoor
open Go
set_option linter.unusedSimpArgs false
set_option linter.unusedVariables false
set_option maxHeartbeats 4000000
def NV:List Kd→Bool
  | []=>true
  | x :: r=>r.isEmpty && kIs 40 x
section
variable{b B0 N:Nat}{w:World}(hbB:B0≤b)(hbw:b<w.heap.size)(hR:AT B0 N w)(hN:N≤2147483648)
include hbB hbw hR hN
theorem Aqx:WB B0 b N w (Fv.v ⟨188,#[]⟩) (fun _ l=>AlS l):=by
  intro w' B n x e0 hn hr K hK
  dsimp only at hK
  refine AfX (by rfl) ?_
  show Aio x K w'
  refine AjK _ _ _ ?_
  unfold Aiw
  intro a1 wb h1
  have hcn:=h1.cells
  have hr1:=hr.ext h1.fr
  have hsn:=hr1.kids
  have hs1:=hsn.1
  have hRb:=(hR.at_ hbB e0).ext h1.fr
  have hbw1:=JW (JW hbw e0) h1.fr
  have hl:∀ k∈n.kids,k.wt<N:=fun k h=>by have:=Nd.wt_lt h;omega
  have hlen:n.kids.length≤2147483647:=by have:=Nd.wts_length n.kids;have:=n.wts_lt;omega
  replace hK:∀ w'',Ext wb w''→K (AlS (n.kids.map kd)) w'':=fun w'' e=>hK _ (h1.fr.trans e)
  refine MX hcn (Ext.refl _) ?_
  refine JE (fun hb => ?_) (fun hb => ?_)
  · have:n.kids = []:=List.length_eq_zero_iff.1 (by simp at hb;omega)
    rw[this] at hK
    exact RtB _ (leaf hK (Ext.refl _) rfl)
  have hpos:0<n.kids.length:=by simp at hb;omega
  refine MX hcn (Ext.refl _) ?_
  refine AnK hsn hpos fun y hy => ?_
  refine Aho hRb hy (hl _ (List.getElem_mem hpos)) _ fun w2 e2 => ?_
  have hcall:AlS (n.kids.map kd)=(kEx (kd n.kids[0]) && EG ((n.kids.drop 1).map kd)):=by
    have:n.kids.map kd=kd n.kids[0] :: (n.kids.drop 1).map kd:=by
      have:=List.drop_eq_getElem_cons (l:=n.kids) (i:=0) hpos
      rw[List.drop_zero] at this
      conv=>lhs;rw[this]
      rfl
    rw[this];rfl
  rw[hcall] at hK
  refine JE (fun hb2 => ?_) (fun hb2 => ?_)
  · exact RtB _ (leaf hK e2 (by simp at hb2;simp[hb2]))
  simp only[Bool.not_eq_false'] at hb2
  rw[hb2,Bool.true_and] at hK
  unfold AdV
  refine MX hcn e2 ?_
  refine Ag7 NP (by omega) (by omega) ?_
  have hso:=(hsn.ext e2).from_ (lo:=1) (by omega)
  have hff:x.Kids.from_ (1:Int).toNat 6=x.Kids.from_ 1 6:=rfl
  rw[hff]
  generalize hks:n.kids.drop 1=ks at hK hso
  have hlk:∀ k∈ks,k.wt<N:=fun k h=>hl k (List.mem_of_mem_drop (by rw[hks];exact h))
  have hkl:ks.length≤2147483647:=by rw[← hks];simp;omega
  generalize x.Kids.from_ 1 6=l at hso ⊢
  refine BL hbB (JW hbw1 e2) (hRb.ext e2) 52 fun f w3 e3 hf => ?_
  intro a11 w4 h4
  have e4:=e2.trans (e3.trans h4.fr)
  have hso4:=hso.ext (e3.trans h4.fr)
  have hR4:=hRb.ext e4
  have hc4:=h4.cells
  replace hf:=Shp.ext hf h4.fr
  have hbw4:=JW hbw1 e4
  replace hK:∀ w'',Ext w4 w''→K (EG (ks.map kd)) w'':=fun w'' e=>hK _ (e4.trans e)
  clear hso h4 e3 e2 hRb hcn hr1 hsn hr h1 hy e4 hcall hks
  generalize hs0:EG (ks.map kd)=s at hK
  refine YE (fun m x w'=>Ext w4 w'∧∃ (rest:List Nd) (i:Nat),x.2=i∧m+i=2∧HS w4 B rest x.1∧(∀ k∈rest,k.wt<N)∧rest.length≤2147483647∧s=(if i=0 then EG (rest.map kd) else if i=1 then BO (rest.map kd) else NV (rest.map kd))) 2 (l,0) rfl ⟨Ext.refl _,ks,0,rfl,rfl,hso4,hlk,hkl,by rw[if_pos rfl];exact hs0.symm⟩ ?_
  clear hs0 hso4 hlk hkl ks l
  rintro m ⟨l,i'⟩ w' ⟨e,ks,i,rfl,hm,hso,hlk,hkl,hs⟩ again hag
  simp only
  dsimp only at hso
  have hsl:=hso.1
  have hwi:i≤2→IntKind.i64.wrap ((i:Int)+1)=((i+1:Nat):Int):=fun h=>by rw[JY (by omega) (by omega)];omega
  refine JE (fun hlt => ?_) (fun hge => ?_)
  · have hi:i<2:=by simp at hlt;omega
    rw[hwi (by omega)]
    refine⟨by omega,by omega,?_⟩
    -- the shape of this round
    obtain⟨g,p,hg,hsh,hp0⟩:∃ (g:Fv) (p:Kd→Bool),w'.cell? (a11.add ((i:Int).toNat * 1))=some g.v∧Shp B0 b N w' g p∧((i=0∧p=kEx)∨(i=1∧p=kIs 52)):=by
      have h01:i=0∨i=1:=by omega
      rcases h01 with rfl | rfl
      · exact⟨⟨128,#[]⟩,kEx,(hc4.ext e) 0 _ rfl,YG hbB (hR4.ext e),.inl ⟨rfl,rfl⟩⟩
      · exact⟨f,kIs 52,(hc4.ext e) 1 _ rfl,hf.ext e,.inr ⟨rfl,rfl⟩⟩
    refine IL (x:=g) hg ?_
    have hstep:∀ (y:Kd) (r:List Kd),(if i=0 then EG (y :: r) else if i=1 then BO (y :: r) else NV (y :: r))=if p y then(if i=0 then EG r else if i=1 then BO r else NV r) else(if i+1=0 then EG (y :: r) else if i+1=1 then BO (y :: r) else NV (y :: r)):=by
      intro y r
      rcases hp0 with⟨rfl,rfl⟩ | ⟨rfl,rfl⟩
      · simp[EG]
      · simp[BO,NV]
    have hnil:(if i=0 then EG [] else if i=1 then BO [] else NV [])=(if i+1=0 then EG [] else if i+1=1 then BO [] else NV []):=by
      rcases hp0 with⟨rfl,rfl⟩ | ⟨rfl,rfl⟩<;>rfl
    refine YE (fun m' x w''=>Ext w' w''∧∃ rest:List Nd,m'=rest.length∧HS w4 B rest x∧(∀ k∈rest,k.wt<N)∧rest.length≤2147483647∧s=(if i=0 then EG (rest.map kd) else if i=1 then BO (rest.map kd) else NV (rest.map kd))) ks.length l rfl ⟨Ext.refl _,ks,rfl,hso,hlk,hkl,hs⟩ ?_
    clear hlt hso hlk hkl hs hsl ks l
    rintro m' l w'' ⟨e5,ks,rfl,hso,hlk,hkl,hs⟩ again2 hag2
    have hsl:=hso.1
    refine JE (fun hlt => ?_) (fun hge => ?_)
    · have hpos:0<ks.length:=by simp at hlt;omega
      rcases ks with _ | ⟨k0,r⟩
      · simp at hpos
      refine Atf (hso.ext (e.trans e5)) fun y hy => ?_
      refine hsh (Ext.fr e5) (hlk _ (by simp)) hy _ fun w6 e6 => ?_
      rw[List.map_cons,hstep] at hs
      refine JE (fun hb => ?_) (fun hb => ?_)
      · rw[if_pos hb] at hs
        refine Ag7 NP (by omega) (by omega) ?_
        refine hag2 r.length _ w6 (by simp) ⟨e5.trans e6,r,rfl,hso.from_ (lo:=1) (by simp),fun k h=>hlk k (by simp[h]),by simp at hkl;omega,hs⟩
      · rw[if_neg (by simp[hb])] at hs
        exact hag (m - 1) (l,((i+1:Nat):Int)) w6 (by omega) ⟨e.trans (e5.trans e6),k0 :: r,i+1,rfl,by omega,hso,hlk,hkl,hs⟩
    · have hz:ks = []:=List.length_eq_zero_iff.1 (by simp at hge;omega)
      subst hz
      rw[List.map_nil,hnil] at hs
      exact hag (m - 1) (l,((i+1:Nat):Int)) w'' (by omega) ⟨e.trans e5,[],i+1,rfl,by omega,hso,hlk,hkl,hs⟩
  · have hi:i=2:=by simp at hge;omega
    subst hi
    rw[if_neg (by omega),if_neg (by omega)] at hs
    refine JE (fun hb => ?_) (fun hb => ?_)
    · have hz:ks = []:=List.length_eq_zero_iff.1 (by simp at hb;omega)
      subst hz
      exact RtB _ (leaf hK e hs.symm)
    · refine BL hbB (JW hbw4 e) (hR4.ext e) 40 fun f2 w5 e5 hf2 => ?_
      intro a22 w6 h6
      refine PU (B0:=B0) (b:=b) (N:=N) (fps:=[(f2,kIs 40)]) (hso.ext (e.trans (e5.trans h6.fr))) hlk (by omega) (AB.made (JW (JW hbw4 e) e5) _ h6 rfl rfl ?_) _ fun w7 e7 => ?_
      · intro g p hm
        simp only[List.mem_cons,Prod.mk.injEq,List.not_mem_nil,or_false] at hm
        obtain⟨rfl,rfl⟩:=hm
        exact hf2
      refine RtB _ (leaf hK (e.trans (e5.trans (h6.fr.trans e7))) ?_)
      rw[hs]
      simp only[List.map_cons,List.map_nil,AcX]
      rcases ks with _ | ⟨k0,_ | ⟨k1,r⟩⟩
      · simp at hsl;simp[hsl] at hb
      · simp[Ads,NV]
      · simp[Ads,NV]
end
end Go.Proofs.YtjiagmjfnbljjaaGreatDoor
end
section
namespace Go.Proofs.YtjiagmjfnbljjaaGreatDoor
open Go
set_option linter.unusedSimpArgs false
set_option linter.unusedVariables false
set_option linter.unusedSectionVars false
set_option maxHeartbeats 8000000
theorem WB.cong{B0 b N:Nat}{w:World}{v:Value}{q q':ByteArray→List Kd→Bool}(h:WB B0 b N w v q)(hq:∀ t l,q t l=q' t l):WB B0 b N w v q':=fun _ _ _ _ e hn hr K hK=>h e hn hr K fun w' e'=>by rw[hq];exact hK w' e'
theorem AfV.cong{B0 b:Nat}{w:World}{v:Value}{p p':ByteArray→Bool}(h:AfV B0 b w v p)(hq:∀ t,p t=p' t):AfV B0 b w v p':=fun _ s e hs K hK=>h s e hs K fun w' e'=>by rw[hq];exact hK w' e'
theorem Ak2{p:Kd→Bool}{l:List Kd}:(decide (l.length≥0) && l.all p)=l.all p:=by simp
theorem Ak3{p:Kd→Bool}{l:List Kd}:(decide (l.length≥1) && l.all p)=(!l.isEmpty && l.all p):=by cases l<;>simp
theorem Ast{p:Kd→Bool}{l:List Kd}:(decide (l.length≥2) && l.all p)=(decide (l.length≥2) && l.all p):=rfl
theorem As6{f0 f1:Fv}{l:List Kd}:(decide (l.length≥0) && l.all (fun x=>[(f0,kIs 39),(f1,kIs 40)].any fun q=>q.2 x))=l.all (fun x=>kIs 39 x || kIs 40 x):=by simp
def Ann(B0 b N:Nat)(w:World)(k:Int)(x:YA):Prop:=
  ((∃ f:Fv,x.kids=f.v)∧WB B0 b N w x.kids (fun t l=>kidsB k t l)∧AfV B0 b w x.text (fun t=>Aug k t MD))∨
  (x.kids = .nilFunc∧∀ (n:Nd) (l:List Kd),n.kind=k→EW MD n l=false)
def Apo(B0 b N:Nat)(w:World)(k:Int)(x:YA):Prop:=x.cells.toList.all MH=true∧Ann B0 b N w k x
theorem Ann.set{B0 b N:Nat}{w w':World}{k:Int}{x:YA}(h:Ann B0 b N w k x)(e:Fr (fun i=>B0≤i∧i≤b) w w'):Ann B0 b N w' k x:=by
  rcases h with⟨h1,h2,h3⟩ | h
  · exact .inl ⟨h1,h2.set e,h3.set e⟩
  · exact .inr h
theorem YW{B0 b N:Nat}{w0 w1 w:World}{A:Addr}{K:YA→World→Prop}{k:Int}{x:YA}(hbB:B0≤b)(hbe:b=w0.heap.size)(h1:LG w0 (.cells #[.nilFunc,.nilFunc] 144) A w1)(e:Ext w1 w)(hK:∀ x w',Ext w0 w'→Apo B0 b N w' k x→K x w')(hx:x.cells.toList.all MH=true)(hf:Ann B0 b N w k x) :
    JX A x (fun w=>QA A (fun r=>Rt AU K (r.v) w) w) w:=by
  subst hbe
  have ha:=h1.addr
  subst ha
  have hg:=e.get h1.get
  refine RB hg (by decide) (fun u hu=>List.all_eq_true.1 hx u hu) fun w2 h2 => ?_
  refine AcV (JD.all (h2.get (ZC hg))) ?_
  exact Rt.mk (h:=AU) _ (hK _ w2 ((h1.fr.trans e).set (Nat.le_refl _) h2) ⟨hx,hf.set (h2.fr.mono fun i _ hi=>by omega)⟩)
theorem Afb{B0 N:Nat}{w0:World}(hB:B0≤w0.heap.size)(hR:AT B0 N w0)(hV:VOk B0 w0)(hN:N≤2147483648)(hN7:N≤2147483647)(k:Int)(hk:¬ (1≤k∧k≤23)){K:YA→World→Prop}(hK0:∀ x w',Ext w0 w'→Apo B0 w0.heap.size N w' k x→K x w'):KC k K w0:=by
  refine Adn _ _ _ ?_
  unfold TY
  intro A w1 h1
  have hb1:w0.heap.size<w1.heap.size:=by have:=h1.size;omega
  have hbB:=hB
  have e:=Ext.refl w1
  replace hR:=hR.ext h1.fr
  replace hV:=hV.ext h1.fr
  obtain⟨b,hbe⟩:∃ b,b=w0.heap.size:=⟨_,rfl⟩
  simp only[← hbe] at hK0 hb1 hbB
  repeat' first
    | (with_reducible refine JE (fun hb => ?_) (fun hb => ?_)<;>simp only[beq_iff_eq,beq_eq_false_iff_ne,ne_eq] at hb<;>try (exfalso;omega))
    | (with_reducible unfold OH)
    | (with_reducible unfold DV)
    | (with_reducible unfold EU)
    | (with_reducible unfold OI)
  · -- kind 31
    subst hb
    refine ZG (B0:=B0) (b:=b) (N:=N) (fps:=[]) (JW hb1 e) hN AB.nil fun g wg eg hg => ?_
    replace e:=e.trans eg
    exact YW hbB hbe h1 e hK0 (by rfl) (.inl ⟨⟨g,rfl⟩,hg.cong fun t l=>by simp only[List.map_cons,List.map_nil,AkT];rfl,KQ.cong fun t=>rfl⟩)
  · -- kind 32
    subst hb
    refine ZG (B0:=B0) (b:=b) (N:=N) (fps:=[]) (JW hb1 e) hN AB.nil fun g wg eg hg => ?_
    replace e:=e.trans eg
    exact YW hbB hbe h1 e hK0 (by rfl) (.inl ⟨⟨g,rfl⟩,hg.cong fun t l=>by simp only[List.map_cons,List.map_nil,AkT];rfl,ZE.cong fun t=>rfl⟩)
  · -- kind 33
    subst hb
    refine ZG (B0:=B0) (b:=b) (N:=N) (fps:=[]) (JW hb1 e) hN AB.nil fun g wg eg hg => ?_
    replace e:=e.trans eg
    exact YW hbB hbe h1 e hK0 (by rfl) (.inl ⟨⟨g,rfl⟩,hg.cong fun t l=>by simp only[List.map_cons,List.map_nil,AkT];rfl,(Aq2 hbB (hV.ext e)).cong fun t=>rfl⟩)
  · -- kind 34
    subst hb
    intro at_ wt ht
    have hat:=ht.addr
    refine SY (B0:=B0) (b:=b) (JW (JW hb1 e) ht.fr) (fun a ha=>by cases ha;subst hat;have:=JW hb1 e;simp;omega) AhW (by decide) (KE.made (ss:=AhW.map fun x=>⟨x.toArray⟩) ht rfl) fun ft wt2 et hT => ?_
    have et0:=e
    replace e:=e.trans (ht.fr.trans et)
    clear ht
    have ez:=Ext.refl wt2
    refine ZG (B0:=B0) (b:=b) (N:=N) (fps:=[]) (JW hb1 e) hN AB.nil fun g wg eg hg => ?_
    replace e:=e.trans eg
    replace ez:=ez.trans eg
    exact YW hbB hbe h1 e hK0 (by rfl) (.inl ⟨⟨g,rfl⟩,hg.cong fun t l=>by simp only[List.map_cons,List.map_nil,AkT];rfl,(hT.ext ez).cong fun t=>rfl⟩)
  · -- kind 35
    subst hb
    refine HP (B0:=B0) (b:=b) (N:=N) (p:=kEx) (JW hb1 e) hN 0 (YG hbB (hR.ext e)) fun g wg eg hg => ?_
    replace e:=e.trans eg
    exact YW hbB hbe h1 e hK0 (by rfl) (.inl ⟨⟨g,rfl⟩,hg.cong fun t l=>Ak2,ZE.cong fun t=>rfl⟩)
  · -- kind 36
    subst hb
    refine HP (B0:=B0) (b:=b) (N:=N) (p:=kEx) (JW hb1 e) hN 0 (YG hbB (hR.ext e)) fun g wg eg hg => ?_
    replace e:=e.trans eg
    exact YW hbB hbe h1 e hK0 (by rfl) (.inl ⟨⟨g,rfl⟩,hg.cong fun t l=>Ak2,ZE.cong fun t=>rfl⟩)
  · -- kind 37
    subst hb
    refine HP (B0:=B0) (b:=b) (N:=N) (p:=kEx) (JW hb1 e) hN 1 (YG hbB (hR.ext e)) fun g wg eg hg => ?_
    replace e:=e.trans eg
    exact YW hbB hbe h1 e hK0 (by rfl) (.inl ⟨⟨g,rfl⟩,hg.cong fun t l=>Ak3,ZE.cong fun t=>rfl⟩)
  · -- kind 38
    subst hb
    refine BL hbB (JW hb1 e) (hR.ext e) 39 fun f0 ws0 e0 hf0 => ?_
    replace e:=e.trans e0
    refine BL hbB (JW hb1 e) (hR.ext e) 40 fun f1 ws1 e1 hf1 => ?_
    replace e:=e.trans e1
    replace hf0:=Shp.ext hf0 e1
    intro aK wK hK_
    refine Agr (B0:=B0) (b:=b) (N:=N) (fps:=[(f0,kIs 39),(f1,kIs 40)]) (JW (JW hb1 e) hK_.fr) (by simp) (AB.made (JW hb1 e) _ hK_ rfl rfl ?_) fun f3 w3 e3 hf3 => ?_
    · intro f p hm
      simp only[List.mem_cons,Prod.mk.injEq,List.not_mem_nil,or_false] at hm
      rcases hm with⟨rfl,rfl⟩ | ⟨rfl,rfl⟩
      · exact hf0
      · exact hf1
    replace e:=e.trans (hK_.fr.trans e3)
    refine HP (B0:=B0) (b:=b) (N:=N) (p:=fun x=>[(f0,kIs 39),(f1,kIs 40)].any fun q=>q.2 x) (JW hb1 e) hN 0 hf3 fun g wg eg hg => ?_
    replace e:=e.trans eg
    exact YW hbB hbe h1 e hK0 (by rfl) (.inl ⟨⟨g,rfl⟩,hg.cong fun t l=>As6,ZE.cong fun t=>rfl⟩)
  · -- kind 39
    subst hb
    intro aK wK hK_
    refine ZG (B0:=B0) (b:=b) (N:=N) (fps:=[(⟨128,#[]⟩,kEx),(⟨128,#[]⟩,kEx)]) (JW (JW hb1 e) hK_.fr) hN (AB.made (JW hb1 e) _ hK_ rfl rfl ?_) fun g wg eg hg => ?_
    · intro f p hm
      simp only[List.mem_cons,Prod.mk.injEq,List.not_mem_nil,or_false] at hm
      rcases hm with⟨rfl,rfl⟩ | ⟨rfl,rfl⟩
      · exact YG hbB (hR.ext e)
      · exact YG hbB (hR.ext e)
    replace e:=e.trans (hK_.fr.trans eg)
    exact YW hbB hbe h1 e hK0 (by rfl) (.inl ⟨⟨g,rfl⟩,hg.cong fun t l=>by simp only[List.map_cons,List.map_nil,AcY];rfl,ZE.cong fun t=>rfl⟩)
  · -- kind 45
    subst hb
    intro aK wK hK_
    refine ZG (B0:=B0) (b:=b) (N:=N) (fps:=[(⟨128,#[]⟩,kEx),(⟨128,#[]⟩,kEx)]) (JW (JW hb1 e) hK_.fr) hN (AB.made (JW hb1 e) _ hK_ rfl rfl ?_) fun g wg eg hg => ?_
    · intro f p hm
      simp only[List.mem_cons,Prod.mk.injEq,List.not_mem_nil,or_false] at hm
      rcases hm with⟨rfl,rfl⟩ | ⟨rfl,rfl⟩
      · exact YG hbB (hR.ext e)
      · exact YG hbB (hR.ext e)
    replace e:=e.trans (hK_.fr.trans eg)
    exact YW hbB hbe h1 e hK0 (by rfl) (.inl ⟨⟨g,rfl⟩,hg.cong fun t l=>by simp only[List.map_cons,List.map_nil,AcY];rfl,ZE.cong fun t=>rfl⟩)
  · -- kind 46
    subst hb
    intro aK wK hK_
    refine ZG (B0:=B0) (b:=b) (N:=N) (fps:=[(⟨128,#[]⟩,kEx),(⟨128,#[]⟩,kEx)]) (JW (JW hb1 e) hK_.fr) hN (AB.made (JW hb1 e) _ hK_ rfl rfl ?_) fun g wg eg hg => ?_
    · intro f p hm
      simp only[List.mem_cons,Prod.mk.injEq,List.not_mem_nil,or_false] at hm
      rcases hm with⟨rfl,rfl⟩ | ⟨rfl,rfl⟩
      · exact YG hbB (hR.ext e)
      · exact YG hbB (hR.ext e)
    replace e:=e.trans (hK_.fr.trans eg)
    exact YW hbB hbe h1 e hK0 (by rfl) (.inl ⟨⟨g,rfl⟩,hg.cong fun t l=>by simp only[List.map_cons,List.map_nil,AcY];rfl,ZE.cong fun t=>rfl⟩)
  · -- kind 54
    subst hb
    intro aK wK hK_
    refine ZG (B0:=B0) (b:=b) (N:=N) (fps:=[(⟨128,#[]⟩,kEx),(⟨128,#[]⟩,kEx)]) (JW (JW hb1 e) hK_.fr) hN (AB.made (JW hb1 e) _ hK_ rfl rfl ?_) fun g wg eg hg => ?_
    · intro f p hm
      simp only[List.mem_cons,Prod.mk.injEq,List.not_mem_nil,or_false] at hm
      rcases hm with⟨rfl,rfl⟩ | ⟨rfl,rfl⟩
      · exact YG hbB (hR.ext e)
      · exact YG hbB (hR.ext e)
    replace e:=e.trans (hK_.fr.trans eg)
    exact YW hbB hbe h1 e hK0 (by rfl) (.inl ⟨⟨g,rfl⟩,hg.cong fun t l=>by simp only[List.map_cons,List.map_nil,AcY];rfl,ZE.cong fun t=>rfl⟩)
  · -- kind 40
    subst hb
    intro aK wK hK_
    refine ZG (B0:=B0) (b:=b) (N:=N) (fps:=[(⟨128,#[]⟩,kEx)]) (JW (JW hb1 e) hK_.fr) hN (AB.made (JW hb1 e) _ hK_ rfl rfl ?_) fun g wg eg hg => ?_
    · intro f p hm
      simp only[List.mem_cons,Prod.mk.injEq,List.not_mem_nil,or_false] at hm
      obtain⟨rfl,rfl⟩:=hm
      exact YG hbB (hR.ext e)
    replace e:=e.trans (hK_.fr.trans eg)
    exact YW hbB hbe h1 e hK0 (by rfl) (.inl ⟨⟨g,rfl⟩,hg.cong fun t l=>by simp only[List.map_cons,List.map_nil,AcX];rfl,ZE.cong fun t=>rfl⟩)
  · -- kind 47
    subst hb
    intro aK wK hK_
    refine ZG (B0:=B0) (b:=b) (N:=N) (fps:=[(⟨128,#[]⟩,kEx)]) (JW (JW hb1 e) hK_.fr) hN (AB.made (JW hb1 e) _ hK_ rfl rfl ?_) fun g wg eg hg => ?_
    · intro f p hm
      simp only[List.mem_cons,Prod.mk.injEq,List.not_mem_nil,or_false] at hm
      obtain⟨rfl,rfl⟩:=hm
      exact YG hbB (hR.ext e)
    replace e:=e.trans (hK_.fr.trans eg)
    exact YW hbB hbe h1 e hK0 (by rfl) (.inl ⟨⟨g,rfl⟩,hg.cong fun t l=>by simp only[List.map_cons,List.map_nil,AcX];rfl,ZE.cong fun t=>rfl⟩)
  · -- kind 50
    subst hb
    intro aK wK hK_
    refine ZG (B0:=B0) (b:=b) (N:=N) (fps:=[(⟨128,#[]⟩,kEx)]) (JW (JW hb1 e) hK_.fr) hN (AB.made (JW hb1 e) _ hK_ rfl rfl ?_) fun g wg eg hg => ?_
    · intro f p hm
      simp only[List.mem_cons,Prod.mk.injEq,List.not_mem_nil,or_false] at hm
      obtain⟨rfl,rfl⟩:=hm
      exact YG hbB (hR.ext e)
    replace e:=e.trans (hK_.fr.trans eg)
    exact YW hbB hbe h1 e hK0 (by rfl) (.inl ⟨⟨g,rfl⟩,hg.cong fun t l=>by simp only[List.map_cons,List.map_nil,AcX];rfl,ZE.cong fun t=>rfl⟩)
  · -- kind 41
    subst hb
    refine WH (B0:=B0) (b:=b) (N:=N) (p:=kEx) hbB (JW hb1 e) (hR.ext e) hN (YG hbB (hR.ext e)) fun g wg eg hg => ?_
    replace e:=e.trans eg
    exact YW hbB hbe h1 e hK0 (by rfl) (.inl ⟨⟨g,rfl⟩,hg.cong fun t l=>rfl,ZE.cong fun t=>rfl⟩)
  · -- kind 42
    subst hb
    refine WH (B0:=B0) (b:=b) (N:=N) (p:=kEx) hbB (JW hb1 e) (hR.ext e) hN (YG hbB (hR.ext e)) fun g wg eg hg => ?_
    replace e:=e.trans eg
    exact YW hbB hbe h1 e hK0 (by rfl) (.inl ⟨⟨g,rfl⟩,hg.cong fun t l=>rfl,ZE.cong fun t=>rfl⟩)
  · -- kind 43
    subst hb
    refine BL hbB (JW hb1 e) (hR.ext e) 39 fun f0 ws0 e0 hf0 => ?_
    replace e:=e.trans e0
    refine WH (B0:=B0) (b:=b) (N:=N) (p:=kIs 39) hbB (JW hb1 e) (hR.ext e) hN (hf0) fun g wg eg hg => ?_
    replace e:=e.trans eg
    exact YW hbB hbe h1 e hK0 (by rfl) (.inl ⟨⟨g,rfl⟩,hg.cong fun t l=>rfl,ZE.cong fun t=>rfl⟩)
  · -- kind 44
    subst hb
    intro aK wK hK_
    refine ZG (B0:=B0) (b:=b) (N:=N) (fps:=[(⟨128,#[]⟩,kEx),(⟨128,#[]⟩,kEx),(⟨128,#[]⟩,kEx)]) (JW (JW hb1 e) hK_.fr) hN (AB.made (JW hb1 e) _ hK_ rfl rfl ?_) fun g wg eg hg => ?_
    · intro f p hm
      simp only[List.mem_cons,Prod.mk.injEq,List.not_mem_nil,or_false] at hm
      rcases hm with⟨rfl,rfl⟩ | ⟨rfl,rfl⟩ | ⟨rfl,rfl⟩
      · exact YG hbB (hR.ext e)
      · exact YG hbB (hR.ext e)
      · exact YG hbB (hR.ext e)
    replace e:=e.trans (hK_.fr.trans eg)
    exact YW hbB hbe h1 e hK0 (by rfl) (.inl ⟨⟨g,rfl⟩,hg.cong fun t l=>by simp only[List.map_cons,List.map_nil,ApR];rfl,ZE.cong fun t=>rfl⟩)
  · -- kind 48
    subst hb
    intro at_ wt ht
    have hat:=ht.addr
    refine SY (B0:=B0) (b:=b) (JW (JW hb1 e) ht.fr) (fun a ha=>by cases ha;subst hat;have:=JW hb1 e;simp;omega) Akc (by decide) (KE.made (ss:=Akc.map fun x=>⟨x.toArray⟩) ht rfl) fun ft wt2 et hT => ?_
    have et0:=e
    replace e:=e.trans (ht.fr.trans et)
    clear ht
    have ez:=Ext.refl wt2
    intro aK wK hK_
    refine ZG (B0:=B0) (b:=b) (N:=N) (fps:=[(⟨128,#[]⟩,kEx),(⟨128,#[]⟩,kEx)]) (JW (JW hb1 e) hK_.fr) hN (AB.made (JW hb1 e) _ hK_ rfl rfl ?_) fun g wg eg hg => ?_
    · intro f p hm
      simp only[List.mem_cons,Prod.mk.injEq,List.not_mem_nil,or_false] at hm
      rcases hm with⟨rfl,rfl⟩ | ⟨rfl,rfl⟩
      · exact YG hbB (hR.ext e)
      · exact YG hbB (hR.ext e)
    replace e:=e.trans (hK_.fr.trans eg)
    replace ez:=ez.trans (hK_.fr.trans eg)
    exact YW hbB hbe h1 e hK0 (by rfl) (.inl ⟨⟨g,rfl⟩,hg.cong fun t l=>by simp only[List.map_cons,List.map_nil,AcY];rfl,(hT.ext ez).cong fun t=>rfl⟩)
  · -- kind 49
    subst hb
    intro at_ wt ht
    have hat:=ht.addr
    refine SY (B0:=B0) (b:=b) (JW (JW hb1 e) ht.fr) (fun a ha=>by cases ha;subst hat;have:=JW hb1 e;simp;omega) AkJ (by decide) (KE.made (ss:=AkJ.map fun x=>⟨x.toArray⟩) ht rfl) fun ft wt2 et hT => ?_
    have et0:=e
    replace e:=e.trans (ht.fr.trans et)
    clear ht
    have ez:=Ext.refl wt2
    intro aK wK hK_
    refine ZG (B0:=B0) (b:=b) (N:=N) (fps:=[(⟨128,#[]⟩,kEx),(⟨128,#[]⟩,kEx)]) (JW (JW hb1 e) hK_.fr) hN (AB.made (JW hb1 e) _ hK_ rfl rfl ?_) fun g wg eg hg => ?_
    · intro f p hm
      simp only[List.mem_cons,Prod.mk.injEq,List.not_mem_nil,or_false] at hm
      rcases hm with⟨rfl,rfl⟩ | ⟨rfl,rfl⟩
      · exact YG hbB (hR.ext e)
      · exact YG hbB (hR.ext e)
    replace e:=e.trans (hK_.fr.trans eg)
    replace ez:=ez.trans (hK_.fr.trans eg)
    exact YW hbB hbe h1 e hK0 (by rfl) (.inl ⟨⟨g,rfl⟩,hg.cong fun t l=>by simp only[List.map_cons,List.map_nil,AcY];rfl,(hT.ext ez).cong fun t=>rfl⟩)
  · -- kind 51
    subst hb
    exact YW hbB hbe h1 e hK0 (by rfl) (.inl ⟨⟨⟨188,#[]⟩,rfl⟩,WB.cong (Aqx hbB (JW hb1 e) (hR.ext e) hN) fun t l=>rfl,ZE.cong fun t=>rfl⟩)
  · -- kind 52
    subst hb
    intro aK wK hK_
    refine ZG (B0:=B0) (b:=b) (N:=N) (fps:=[(⟨128,#[]⟩,kEx)]) (JW (JW hb1 e) hK_.fr) hN (AB.made (JW hb1 e) _ hK_ rfl rfl ?_) fun g wg eg hg => ?_
    · intro f p hm
      simp only[List.mem_cons,Prod.mk.injEq,List.not_mem_nil,or_false] at hm
      obtain⟨rfl,rfl⟩:=hm
      exact YG hbB (hR.ext e)
    replace e:=e.trans (hK_.fr.trans eg)
    exact YW hbB hbe h1 e hK0 (by rfl) (.inl ⟨⟨g,rfl⟩,hg.cong fun t l=>by simp only[List.map_cons,List.map_nil,AcX];rfl,KQ.cong fun t=>rfl⟩)
  · -- kind 53
    subst hb
    intro aK wK hK_
    refine ZG (B0:=B0) (b:=b) (N:=N) (fps:=[(⟨128,#[]⟩,kEx)]) (JW (JW hb1 e) hK_.fr) hN (AB.made (JW hb1 e) _ hK_ rfl rfl ?_) fun g wg eg hg => ?_
    · intro f p hm
      simp only[List.mem_cons,Prod.mk.injEq,List.not_mem_nil,or_false] at hm
      obtain⟨rfl,rfl⟩:=hm
      exact YG hbB (hR.ext e)
    replace e:=e.trans (hK_.fr.trans eg)
    exact YW hbB hbe h1 e hK0 (by rfl) (.inl ⟨⟨g,rfl⟩,hg.cong fun t l=>by simp only[List.map_cons,List.map_nil,AcX];rfl,KQ.cong fun t=>rfl⟩)
  · refine YW hbB hbe h1 e hK0 (by rfl) (.inr ⟨rfl,fun n l hn => ?_⟩)
    subst hn
    exact Ao5 (by omega) (by omega) (by omega) (by omega) (by omega) (by omega) (by omega) (by omega) (by omega) (by omega) (by omega) (by omega) (by omega) (by omega) (by omega) (by omega) (by omega) (by omega) (by omega) (by omega) (by omega) (by omega) (by omega) (by omega) (by omega) (by omega) (by omega) (by omega) (by omega) (by omega) (by omega) (by omega) (by omega) (by omega) (by omega) (by omega) (by omega) (by omega) (by omega) (by omega) (by omega) (by omega) (by omega) (by omega) (by omega) (by omega) (by omega)
end Go.Proofs.YtjiagmjfnbljjaaGreatDoor
end
section
namespace Go.Proofs.YtjiagmjfnbljjaaGreatDoor
open Go
set_option linter.unusedSimpArgs false
set_option linter.unusedVariables false
set_option linter.unusedSectionVars false
set_option maxHeartbeats 8000000
theorem Ags{B0 N:Nat}{w0:World}(hB:B0≤w0.heap.size)(hR:AT B0 N w0)(hV:VOk B0 w0)(hN:N≤2147483648)(hN7:N≤2147483647)(k:Int){K:YA→World→Prop}(hK0:∀ x w' b,Ext w0 w'→w0.heap.size≤b→Apo B0 b N w' k x→K x w'):KV k K w0:=by
  refine AdI _ _ _ ?_
  unfold Aaw
  intro A w1 h1
  have hb1:w0.heap.size<w1.heap.size:=by have:=h1.size;omega
  have hbB:=hB
  have e:=Ext.refl w1
  replace hR:=hR.ext h1.fr
  replace hV:=hV.ext h1.fr
  have hK1:=hK0
  replace hK0:∀ x w',Ext w0 w'→Apo B0 w0.heap.size N w' k x→K x w':=fun x w' e h=>hK0 x w' _ e (Nat.le_refl _) h
  obtain⟨b,hbe⟩:∃ b,b=w0.heap.size:=⟨_,rfl⟩
  simp only[← hbe] at hK0 hb1 hbB
  intro at_ wt ht
  have hat:=ht.addr
  refine SY (B0:=B0) (b:=b) (JW (JW hb1 e) ht.fr) (fun a ha=>by cases ha;subst hat;have:=JW hb1 e;simp;omega) AkJ (by decide) (KE.made (ss:=AkJ.map fun x=>⟨x.toArray⟩) ht rfl) fun ft wt2 et hT => ?_
  replace e:=e.trans (ht.fr.trans et)
  replace hR:=hR.ext e
  replace hV:=hV.ext e
  replace hb1:=JW hb1 e
  -- from here on all is told from the world behind the signs
  have eS:=e
  replace e:=Ext.refl wt2
  repeat' first
    | (with_reducible refine JE (fun hb => ?_) (fun hb => ?_)<;>simp only[beq_iff_eq,beq_eq_false_iff_ne,ne_eq] at hb<;>try (exfalso;omega))
    | (with_reducible unfold HH)
    | (with_reducible unfold CB)
    | (with_reducible unfold CC)
  · -- kind 1
    subst hb
    refine BL hbB (JW hb1 e) (hR.ext e) 2 fun f0 ws0 e0 hf0 => ?_
    replace e:=e.trans e0
    intro aK wK hK_
    refine ZG (B0:=B0) (b:=b) (N:=N) (fps:=[(f0,kIs 2)]) (JW (JW hb1 e) hK_.fr) hN (AB.made (JW hb1 e) _ hK_ rfl rfl ?_) fun g wg eg hg => ?_
    · intro f p hm
      simp only[List.mem_cons,Prod.mk.injEq,List.not_mem_nil,or_false] at hm
      obtain⟨rfl,rfl⟩:=hm
      exact hf0
    replace e:=e.trans (hK_.fr.trans eg)
    exact YW hbB hbe h1 (eS.trans e) hK0 (by rfl) (.inl ⟨⟨g,rfl⟩,hg.cong fun t l=>by simp only[List.map_cons,List.map_nil,AcX];rfl,ZE.cong fun t=>rfl⟩)
  · -- kind 2
    subst hb
    refine HP (B0:=B0) (b:=b) (N:=N) (p:=kSt) (JW hb1 e) hN 0 (AlC hbB (hR.ext e)) fun g wg eg hg => ?_
    replace e:=e.trans eg
    exact YW hbB hbe h1 (eS.trans e) hK0 (by rfl) (.inl ⟨⟨g,rfl⟩,hg.cong fun t l=>Ak2,ZE.cong fun t=>rfl⟩)
  · -- kind 3
    subst hb
    intro aK wK hK_
    refine ZG (B0:=B0) (b:=b) (N:=N) (fps:=[(⟨128,#[]⟩,kEx)]) (JW (JW hb1 e) hK_.fr) hN (AB.made (JW hb1 e) _ hK_ rfl rfl ?_) fun g wg eg hg => ?_
    · intro f p hm
      simp only[List.mem_cons,Prod.mk.injEq,List.not_mem_nil,or_false] at hm
      obtain⟨rfl,rfl⟩:=hm
      exact YG hbB (hR.ext e)
    replace e:=e.trans (hK_.fr.trans eg)
    exact YW hbB hbe h1 (eS.trans e) hK0 (by rfl) (.inl ⟨⟨g,rfl⟩,hg.cong fun t l=>by simp only[List.map_cons,List.map_nil,AcX];rfl,ZE.cong fun t=>rfl⟩)
  · -- kind 4
    subst hb
    intro aK wK hK_
    refine ZG (B0:=B0) (b:=b) (N:=N) (fps:=[(⟨129,#[]⟩,kTg),(⟨128,#[]⟩,kEx)]) (JW (JW hb1 e) hK_.fr) hN (AB.made (JW hb1 e) _ hK_ rfl rfl ?_) fun g wg eg hg => ?_
    · intro f p hm
      simp only[List.mem_cons,Prod.mk.injEq,List.not_mem_nil,or_false] at hm
      rcases hm with⟨rfl,rfl⟩ | ⟨rfl,rfl⟩
      · exact AcE hbB (hR.ext e)
      · exact YG hbB (hR.ext e)
    replace e:=e.trans (hK_.fr.trans eg)
    exact YW hbB hbe h1 (eS.trans e) hK0 (by rfl) (.inl ⟨⟨g,rfl⟩,hg.cong fun t l=>by simp only[List.map_cons,List.map_nil,AcY];rfl,ZE.cong fun t=>rfl⟩)
  · -- kind 5
    subst hb
    refine BL hbB (JW hb1 e) (hR.ext e) 23 fun f0 ws0 e0 hf0 => ?_
    replace e:=e.trans e0
    intro aK wK hK_
    refine ZG (B0:=B0) (b:=b) (N:=N) (fps:=[(f0,kIs 23),(⟨128,#[]⟩,kEx)]) (JW (JW hb1 e) hK_.fr) hN (AB.made (JW hb1 e) _ hK_ rfl rfl ?_) fun g wg eg hg => ?_
    · intro f p hm
      simp only[List.mem_cons,Prod.mk.injEq,List.not_mem_nil,or_false] at hm
      rcases hm with⟨rfl,rfl⟩ | ⟨rfl,rfl⟩
      · exact hf0
      · exact YG hbB (hR.ext e)
    replace e:=e.trans (hK_.fr.trans eg)
    exact YW hbB hbe h1 (eS.trans e) hK0 (by rfl) (.inl ⟨⟨g,rfl⟩,hg.cong fun t l=>by simp only[List.map_cons,List.map_nil,AcY];rfl,ZE.cong fun t=>rfl⟩)
  · -- kind 6
    subst hb
    intro aK wK hK_
    refine ZG (B0:=B0) (b:=b) (N:=N) (fps:=[(⟨129,#[]⟩,kTg),(⟨128,#[]⟩,kEx)]) (JW (JW hb1 e) hK_.fr) hN (AB.made (JW hb1 e) _ hK_ rfl rfl ?_) fun g wg eg hg => ?_
    · intro f p hm
      simp only[List.mem_cons,Prod.mk.injEq,List.not_mem_nil,or_false] at hm
      rcases hm with⟨rfl,rfl⟩ | ⟨rfl,rfl⟩
      · exact AcE hbB (hR.ext e)
      · exact YG hbB (hR.ext e)
    replace e:=e.trans (hK_.fr.trans eg)
    exact YW hbB hbe h1 (eS.trans e) hK0 (by rfl) (.inl ⟨⟨g,rfl⟩,hg.cong fun t l=>by simp only[List.map_cons,List.map_nil,AcY];rfl,(hT.ext e).cong fun t=>rfl⟩)
  · -- kind 7
    subst hb
    intro aK wK hK_
    refine ZG (B0:=B0) (b:=b) (N:=N) (fps:=[(⟨129,#[]⟩,kTg)]) (JW (JW hb1 e) hK_.fr) hN (AB.made (JW hb1 e) _ hK_ rfl rfl ?_) fun g wg eg hg => ?_
    · intro f p hm
      simp only[List.mem_cons,Prod.mk.injEq,List.not_mem_nil,or_false] at hm
      obtain⟨rfl,rfl⟩:=hm
      exact AcE hbB (hR.ext e)
    replace e:=e.trans (hK_.fr.trans eg)
    exact YW hbB hbe h1 (eS.trans e) hK0 (by rfl) (.inl ⟨⟨g,rfl⟩,hg.cong fun t l=>by simp only[List.map_cons,List.map_nil,AcX];rfl,ZE.cong fun t=>rfl⟩)
  · -- kind 8
    subst hb
    refine ZG (B0:=B0) (b:=b) (N:=N) (fps:=[]) (JW hb1 e) hN AB.nil fun g wg eg hg => ?_
    replace e:=e.trans eg
    exact YW hbB hbe h1 (eS.trans e) hK0 (by rfl) (.inl ⟨⟨g,rfl⟩,hg.cong fun t l=>by simp only[List.map_cons,List.map_nil,AkT];rfl,ZE.cong fun t=>rfl⟩)
  · -- kind 9
    subst hb
    refine ZG (B0:=B0) (b:=b) (N:=N) (fps:=[]) (JW hb1 e) hN AB.nil fun g wg eg hg => ?_
    replace e:=e.trans eg
    exact YW hbB hbe h1 (eS.trans e) hK0 (by rfl) (.inl ⟨⟨g,rfl⟩,hg.cong fun t l=>by simp only[List.map_cons,List.map_nil,AkT];rfl,ZE.cong fun t=>rfl⟩)
  · -- kind 10
    subst hb
    refine ZG (B0:=B0) (b:=b) (N:=N) (fps:=[]) (JW hb1 e) hN AB.nil fun g wg eg hg => ?_
    replace e:=e.trans eg
    exact YW hbB hbe h1 (eS.trans e) hK0 (by rfl) (.inl ⟨⟨g,rfl⟩,hg.cong fun t l=>by simp only[List.map_cons,List.map_nil,AkT];rfl,ZE.cong fun t=>rfl⟩)
  · -- kind 11
    subst hb
    intro a0 v0 h0
    refine BT (B0:=B0) (b:=b) (N:=N) hbB (JW hb1 e) (hR.ext e) h0 fun f0 ws0 e0 hf0 => ?_
    replace e:=e.trans (h0.fr.trans e0)
    clear h0
    intro aK wK hK_
    refine ZG (B0:=B0) (b:=b) (N:=N) (fps:=[(f0,NE)]) (JW (JW hb1 e) hK_.fr) hN (AB.made (JW hb1 e) _ hK_ rfl rfl ?_) fun g wg eg hg => ?_
    · intro f p hm
      simp only[List.mem_cons,Prod.mk.injEq,List.not_mem_nil,or_false] at hm
      obtain⟨rfl,rfl⟩:=hm
      exact hf0
    replace e:=e.trans (hK_.fr.trans eg)
    exact YW hbB hbe h1 (eS.trans e) hK0 (by rfl) (.inl ⟨⟨g,rfl⟩,hg.cong fun t l=>by simp only[List.map_cons,List.map_nil,AcX];rfl,ZE.cong fun t=>rfl⟩)
  · -- kind 12
    subst hb
    intro a0 v0 h0
    refine BT (B0:=B0) (b:=b) (N:=N) hbB (JW hb1 e) (hR.ext e) h0 fun f0 ws0 e0 hf0 => ?_
    replace e:=e.trans (h0.fr.trans e0)
    clear h0
    intro aK wK hK_
    refine ZG (B0:=B0) (b:=b) (N:=N) (fps:=[(f0,NE)]) (JW (JW hb1 e) hK_.fr) hN (AB.made (JW hb1 e) _ hK_ rfl rfl ?_) fun g wg eg hg => ?_
    · intro f p hm
      simp only[List.mem_cons,Prod.mk.injEq,List.not_mem_nil,or_false] at hm
      obtain⟨rfl,rfl⟩:=hm
      exact hf0
    replace e:=e.trans (hK_.fr.trans eg)
    exact YW hbB hbe h1 (eS.trans e) hK0 (by rfl) (.inl ⟨⟨g,rfl⟩,hg.cong fun t l=>by simp only[List.map_cons,List.map_nil,AcX];rfl,ZE.cong fun t=>rfl⟩)
  · -- kind 13
    subst hb
    refine BL hbB (JW hb1 e) (hR.ext e) 31 fun f0 ws0 e0 hf0 => ?_
    replace e:=e.trans e0
    refine HP (B0:=B0) (b:=b) (N:=N) (p:=kIs 31) (JW hb1 e) hN 1 (hf0) fun g wg eg hg => ?_
    replace e:=e.trans eg
    exact YW hbB hbe h1 (eS.trans e) hK0 (by rfl) (.inl ⟨⟨g,rfl⟩,hg.cong fun t l=>Ak3,ZE.cong fun t=>rfl⟩)
  · -- kind 14
    subst hb
    refine BL hbB (JW hb1 e) (hR.ext e) 31 fun f0 ws0 e0 hf0 => ?_
    replace e:=e.trans e0
    refine HP (B0:=B0) (b:=b) (N:=N) (p:=kIs 31) (JW hb1 e) hN 1 (hf0) fun g wg eg hg => ?_
    replace e:=e.trans eg
    exact YW hbB hbe h1 (eS.trans e) hK0 (by rfl) (.inl ⟨⟨g,rfl⟩,hg.cong fun t l=>Ak3,ZE.cong fun t=>rfl⟩)
  · -- kind 15
    subst hb
    intro a0 v0 h0
    refine Aib (B0:=B0) (b:=b) (N:=N) hbB (JW hb1 e) (hR.ext e) h0 fun f0 ws0 e0 hf0 => ?_
    replace e:=e.trans (h0.fr.trans e0)
    clear h0
    intro aK wK hK_
    refine ZG (B0:=B0) (b:=b) (N:=N) (fps:=[(⟨128,#[]⟩,kEx),(⟨132,#[]⟩,kBl),(f0,Akv)]) (JW (JW hb1 e) hK_.fr) hN (AB.made (JW hb1 e) _ hK_ rfl rfl ?_) fun g wg eg hg => ?_
    · intro f p hm
      simp only[List.mem_cons,Prod.mk.injEq,List.not_mem_nil,or_false] at hm
      rcases hm with⟨rfl,rfl⟩ | ⟨rfl,rfl⟩ | ⟨rfl,rfl⟩
      · exact YG hbB (hR.ext e)
      · exact TC hbB (hR.ext e)
      · exact hf0
    replace e:=e.trans (hK_.fr.trans eg)
    exact YW hbB hbe h1 (eS.trans e) hK0 (by rfl) (.inl ⟨⟨g,rfl⟩,hg.cong fun t l=>by simp only[List.map_cons,List.map_nil,ApR];rfl,ZE.cong fun t=>rfl⟩)
  · -- kind 16
    subst hb
    intro aK wK hK_
    refine ZG (B0:=B0) (b:=b) (N:=N) (fps:=[(⟨128,#[]⟩,kEx),(⟨132,#[]⟩,kBl)]) (JW (JW hb1 e) hK_.fr) hN (AB.made (JW hb1 e) _ hK_ rfl rfl ?_) fun g wg eg hg => ?_
    · intro f p hm
      simp only[List.mem_cons,Prod.mk.injEq,List.not_mem_nil,or_false] at hm
      rcases hm with⟨rfl,rfl⟩ | ⟨rfl,rfl⟩
      · exact YG hbB (hR.ext e)
      · exact TC hbB (hR.ext e)
    replace e:=e.trans (hK_.fr.trans eg)
    exact YW hbB hbe h1 (eS.trans e) hK0 (by rfl) (.inl ⟨⟨g,rfl⟩,hg.cong fun t l=>by simp only[List.map_cons,List.map_nil,AcY];rfl,ZE.cong fun t=>rfl⟩)
  · -- kind 17
    subst hb
    intro aK wK hK_
    refine ZG (B0:=B0) (b:=b) (N:=N) (fps:=[(⟨133,#[]⟩,kTs),(⟨128,#[]⟩,kEx),(⟨132,#[]⟩,kBl)]) (JW (JW hb1 e) hK_.fr) hN (AB.made (JW hb1 e) _ hK_ rfl rfl ?_) fun g wg eg hg => ?_
    · intro f p hm
      simp only[List.mem_cons,Prod.mk.injEq,List.not_mem_nil,or_false] at hm
      rcases hm with⟨rfl,rfl⟩ | ⟨rfl,rfl⟩ | ⟨rfl,rfl⟩
      · exact AiR hbB (hR.ext e)
      · exact YG hbB (hR.ext e)
      · exact TC hbB (hR.ext e)
    replace e:=e.trans (hK_.fr.trans eg)
    exact YW hbB hbe h1 (eS.trans e) hK0 (by rfl) (.inl ⟨⟨g,rfl⟩,hg.cong fun t l=>by simp only[List.map_cons,List.map_nil,ApR];rfl,ZE.cong fun t=>rfl⟩)
  · -- kind 18
    subst hb
    exact YW hbB hbe h1 (eS.trans e) hK0 (by rfl) (.inl ⟨⟨⟨135,#[]⟩,rfl⟩,WB.cong (ArM hbB (JW hb1 e) (hR.ext e) hN hN7) fun t l=>rfl,KQ.cong fun t=>rfl⟩)
  · -- kind 19
    subst hb
    exact YW hbB hbe h1 (eS.trans e) hK0 (by rfl) (.inl ⟨⟨⟨136,#[]⟩,rfl⟩,WB.cong (AoQ hbB (JW hb1 e) (hR.ext e) hN) fun t l=>rfl,KQ.cong fun t=>rfl⟩)
  · -- kind 20
    subst hb
    intro a0 v0 h0
    refine BT (B0:=B0) (b:=b) (N:=N) hbB (JW hb1 e) (hR.ext e) h0 fun f0 ws0 e0 hf0 => ?_
    replace e:=e.trans (h0.fr.trans e0)
    clear h0
    intro aK wK hK_
    refine ZG (B0:=B0) (b:=b) (N:=N) (fps:=[(f0,NE),(⟨132,#[]⟩,kBl)]) (JW (JW hb1 e) hK_.fr) hN (AB.made (JW hb1 e) _ hK_ rfl rfl ?_) fun g wg eg hg => ?_
    · intro f p hm
      simp only[List.mem_cons,Prod.mk.injEq,List.not_mem_nil,or_false] at hm
      rcases hm with⟨rfl,rfl⟩ | ⟨rfl,rfl⟩
      · exact hf0
      · exact TC hbB (hR.ext e)
    replace e:=e.trans (hK_.fr.trans eg)
    exact YW hbB hbe h1 (eS.trans e) hK0 (by rfl) (.inl ⟨⟨g,rfl⟩,hg.cong fun t l=>by simp only[List.map_cons,List.map_nil,AcY];rfl,KQ.cong fun t=>rfl⟩)
  · -- kind 21
    subst hb
    exact YW hbB hbe h1 (eS.trans e) hK0 (by rfl) (.inl ⟨⟨⟨137,#[]⟩,rfl⟩,WB.cong (ArN hbB (JW hb1 e) (hR.ext e) hN hN7) fun t l=>rfl,ZE.cong fun t=>rfl⟩)
  · -- kind 22
    subst hb
    exact YW hbB hbe h1 (eS.trans e) hK0 (by rfl) (.inl ⟨⟨⟨139,#[]⟩,rfl⟩,WB.cong (AnN hbB (JW hb1 e) (hR.ext e) hN) fun t l=>rfl,Alf.cong fun t=>rfl⟩)
  · -- kind 23
    subst hb
    refine HP (B0:=B0) (b:=b) (N:=N) (p:=kTg) (JW hb1 e) hN 2 (AcE hbB (hR.ext e)) fun g wg eg hg => ?_
    replace e:=e.trans eg
    exact YW hbB hbe h1 (eS.trans e) hK0 (by rfl) (.inl ⟨⟨g,rfl⟩,hg.cong fun t l=>Ast,ZE.cong fun t=>rfl⟩)
  · refine Afb (by have:=(h1.fr.trans (eS.trans e)).size;omega) (hR.ext e) (hV.ext e) hN hN7 k (by omega) fun x w' e' hx => ?_
    have ha:=h1.addr
    subst ha
    have hg:=Ext.get (eS.trans (e.trans e')) h1.get
    refine RB hg (by decide) (fun u hu=>List.all_eq_true.1 hx.1 u hu) fun w2 h2 => ?_
    refine AcV (JD.all (h2.get (ZC hg))) ?_
    have hsz:=(h1.fr.trans (eS.trans e)).size
    refine Rt.mk (h:=AU) _ (hK1 _ w2 _ ((h1.fr.trans (eS.trans (e.trans e'))).set (Nat.le_refl _) h2) hsz ⟨hx.1,hx.2.set (h2.fr.mono fun i _ hi => ?_)⟩)
    subst hi;exact⟨hB,hsz⟩
theorem AqQ{f:Fv}{w:World}:(do eqGuard .eql 142 (.const f.v) (.const .nilFunc) f.v .nilFunc;binOp .eql 142 f.v .nilFunc:Sem Value).run PP w = .ok (.bool false) w:=by
  have hu:=Tryz.underlying142
  have h:∀ d,(Op.equalIn (d+1) 142 f.v .nilFunc).run PP w = .ok false w:=by
    intro d;simp[Op.equalIn,Fv.v,underlying,hu]
  have h2:(Op.equal 142 f.v .nilFunc).run PP w = .ok false w:=h 9999
  simp only[Fv.v] at h2
  simp[Fv.v,eqGuard,binOp,h2]
theorem Ao6{w:World}:(do eqGuard .eql 142 (.const .nilFunc) (.const .nilFunc) .nilFunc .nilFunc;binOp .eql 142 .nilFunc .nilFunc:Sem Value).run PP w = .ok (.bool true) w:=by
  have hu:=Tryz.underlying142
  have h:∀ d,(Op.equalIn (d+1) 142 .nilFunc .nilFunc).run PP w = .ok true w:=by
    intro d;simp[Op.equalIn,underlying,hu]
  have h2:(Op.equal 142 .nilFunc .nilFunc).run PP w = .ok true w:=h 9999
  simp[eqGuard,binOp,h2]
theorem Auu{f:Fv}{K:Bool→World→Prop}{w:World}(h:K false w):bin .eql 142 f.v .nilFunc JS K w:=YZ (h:=JS) false AqQ h
theorem As0{K:Bool→World→Prop}{w:World}(h:K true w):bin .eql 142 .nilFunc .nilFunc JS K w:=YZ (h:=JS) true Ao6 h
theorem Ajm{B0 N:Nat}{w:World}(hB:B0≤w.heap.size)(hR:AT B0 N w)(hV:VOk B0 w)(hN:N≤2147483647):AT B0 (N+1) w:=by
  intro w' B n x e0 hw hr
  have hN':N≤2147483648:=by omega
  have hB':B0≤w'.heap.size:=by have:=e0.size;omega
  replace hR:=hR.fu e0
  replace hV:=hV.fu e0
  clear e0 hB
  intro K hK
  refine Ajc _ _ _ ?_
  unfold Acj
  intro a1 w1 h1
  have hc:=h1.cells
  have hr1:=hr.ext h1.fr
  have hm:=hr1.mag
  replace hK:∀ w'',Ext w1 w''→K (right MD n) w'':=fun w'' e=>hK w'' (h1.fr.trans e)
  replace hR:=hR.ext h1.fr
  replace hV:=hV.ext h1.fr
  have hB1:B0≤w1.heap.size:=by have:=h1.fr.size;omega
  rw[CJ] at hK
  clear h1 hr
  refine FX hc (Ext.refl _) ?_
  rw[hr1.kind]
  refine Ags hB1 hR hV hN' hN n.kind fun form w2 b e2 hb hf => ?_
  intro f4 w3 h3
  have ha:=h3.addr
  subst ha
  have hsz2:=e2.size
  refine RB h3.get (by decide) (fun u hu=>List.all_eq_true.1 hf.1 u hu) fun w4 h4 => ?_
  have hcf:JD w4 ⟨w2.heap.size,0,none⟩ form.cells.toList:=JD.all (h4.get (ZC h3.get))
  have e24:Ext w2 w4:=(h3.fr).set (Nat.le_refl _) h4
  have e14:Ext w1 w4:=e2.trans e24
  have htx:n.text.size≤2147483648:=by have:=n.text_lt;omega
  have hml:n.mag.length≤2147483648:=by have:=n.mag_lt;omega
  have ldk:∀ {w5:World} {K2:Value→World→Prop},Ext w4 w5→K2 form.kids w5→LL ((⟨w2.heap.size,0,none⟩:Addr).add 1) K2 w5:=fun e h=>
    YZ (h:=AoK) form.kids (ZK Tryz.underlying142 rfl (YV hcf e 1 rfl)) h
  have ldt:∀ {w5:World} {K2:Value→World→Prop},Ext w4 w5→K2 form.text w5→AnQ (⟨w2.heap.size,0,none⟩:Addr) K2 w5:=fun e h=>
    YZ (h:=AoK) form.text (ZK Tryz.underlying141 rfl (YV hcf e 0 rfl)) h
  refine ldk (Ext.refl _) ?_
  rcases hf.2 with⟨⟨f,hfk⟩,hkids,htext⟩ | ⟨hnil,hno⟩
  · have hbin:∀ {K2:Bool→World→Prop} {w5:World},K2 false w5→bin .eql 142 form.kids .nilFunc JS K2 w5:=fun h=>by rw[hfk];exact Auu h
    refine hbin ?_
    refine ZH rfl ?_
    refine ldt (Ext.refl _) ?_
    have htn:x.Text=n.text:=hr1.text
    refine YS (x:=n.text) (by rw[← htn];exact YV hc e14 2 rfl) ?_
    refine htext.ext e24 _ (Fr.refl _ _) htx _ fun w5 e5 => ?_
    have e15:=e14.trans e5
    refine JE (fun hb2 => ?_) (fun hb2 => ?_)
    · refine RtB _ (leaf hK e15 ?_)
      unfold EW
      simp only[Bool.not_eq_true'] at hb2
      rw[hb2];rfl
    · simp only[Bool.not_eq_false'] at hb2
      have hro:EW MD n (n.kids.map kd)=(Amh n.kind n.neg n.mag && kidsB n.kind n.text (n.kids.map kd)):=by
        unfold EW;rw[hb2,Bool.true_and]
      rw[hro] at hK
      unfold AcR
      refine FX hc e15 ?_
      rw[hr1.kind]
      have hmag:x.Num_Neg=n.neg:=hr1.neg
      refine JE (fun hb3 => ?_) (fun hb3 => ?_)
      · simp only[beq_iff_eq] at hb3
        have hnum:Amh n.kind n.neg n.mag=AoW n.neg n.mag:=by unfold Amh;rw[hb3];rfl
        rw[hnum] at hK
        refine Au4 hc e15 ?_
        rw[hmag]
        refine Ald (hm.fr e15 fun _ _ h=>h) hml _ fun w6 e6 => ?_
        refine JE (fun hb4 => ?_) (fun hb4 => ?_)
        · rw[hb4,Bool.true_and] at hK
          refine ldk (e5.trans e6) ?_
          refine BJ hc (e15.trans e6) ?_
          refine(hkids.ext (e24.trans (e5.trans e6))) (Fr.refl _ _) (by omega) (hr1.ext (e15.trans e6)) _ fun w7 e7 => ?_
          exact RtB _ (hK _ (e15.trans (e6.trans e7)))
        · exact RtB _ (leaf hK (e15.trans e6) (by rw[hb4];rfl))
      · have hnum:Amh n.kind n.neg n.mag=Age n.neg n.mag:=by
          unfold Amh;rw[hb3];rfl
        rw[hnum] at hK
        refine BJ hc e15 ?_
        refine AfR (hr1.ext e15) _ fun w6 e6 => ?_
        refine JE (fun hb4 => ?_) (fun hb4 => ?_)
        · rw[hb4,Bool.true_and] at hK
          refine ldk (e5.trans e6) ?_
          refine BJ hc (e15.trans e6) ?_
          refine(hkids.ext (e24.trans (e5.trans e6))) (Fr.refl _ _) (by omega) (hr1.ext (e15.trans e6)) _ fun w7 e7 => ?_
          exact RtB _ (hK _ (e15.trans (e6.trans e7)))
        · exact RtB _ (leaf hK (e15.trans e6) (by rw[hb4];rfl))
  · rw[hnil]
    refine As0 ?_
    refine VF rfl ?_
    exact RtB _ (leaf hK e14 (hno n _ rfl).symm)
theorem AfS{B0:Nat}{w:World}(hB:B0≤w.heap.size)(hV:VOk B0 w):∀ N,N≤2147483648→AT B0 N w
  | 0,_=>fun _ _ _ _ _ h=>absurd h (by omega)
  | N+1,h=>Ajm hB (AfS hB hV N (by omega)) hV (by omega)
end Go.Proofs.YtjiagmjfnbljjaaGreatDoor
end
section
namespace Go.Proofs.YtjiagmjfnbljjaaGreatDoor
open Go
set_option maxHeartbeats 4000000
set_option linter.unusedVariables false
set_option linter.unusedSimpArgs false
def Aeb(T:List Tk):Int:=match T.getLast? with
  | some t=>t.At
  | none=>0
def ZN(T:List Tk)(s:PS):Tk:=match T[s.i]? with
  | some t=>t
  | none=>⟨9,⟨#[]⟩,Aeb T⟩
def PS.inc(s:PS):PS:=⟨s.i+1,s.code,s.at_⟩
def PS.bad(s:PS):Bool:=s.code != 0
def RZ(T:List Tk)(s:PS):Tk:=ZN T s.inc
def DN(s:PS)(code at_:Int):PS:=if s.bad then s else⟨s.i,code,at_⟩
def DH(T:List Tk)(s:PS):PS:=DN s 106 (ZN T s).At
def isP(T:List Tk)(kind:Int)(text:ByteArray)(s:PS):Bool:=!s.bad && ((ZN T s).Kind==kind && (ZN T s).Text.toList==text.toList)
def JH(T:List Tk)(kind:Int)(text:ByteArray)(s:PS):PS:=if isP T kind text s then s.inc else s
def GF(T:List Tk)(kind:Int)(text:ByteArray)(s:PS):PS:=if isP T kind text s then s.inc else DH T s
def ZZ(T:List Tk)(kind:Int)(s:PS):PS:=if (ZN T s).Kind==kind then s.inc else DH T s
def CI(t:Tk):Bool:=t.Kind==1 && OS t.Text
def LR(T:List Tk)(s:PS):Bool:=!s.bad && CI (ZN T s)
def OT(T:List Tk)(s:PS):ByteArray:=if LR T s then(ZN T s).Text else⟨#[]⟩
def AZ(T:List Tk)(s:PS):PS:=if LR T s then s.inc else DH T s
def BS(T:List Tk)(s:PS):List ByteArray→ByteArray
  | []=>⟨#[]⟩
  | t :: l=>if isP T 5 t s then t else BS T s l
theorem SU{T:List Tk}{s:PS}(h:(ZN T s).Kind≠9):s.i<T.length:=by
  unfold ZN at h
  cases hi:T[s.i]? with
  | none=>rw[hi] at h;simp at h
  | some t=>exact(List.getElem?_eq_some_iff.1 hi).1
theorem AmU{T:List Tk}{kind:Int}{text:ByteArray}{s:PS}(hk:kind≠9)(h:isP T kind text s=true):s.i<T.length:=by
  unfold isP at h
  simp only[Bool.and_eq_true,beq_iff_eq] at h
  exact SU (by rw[h.2.1];exact hk)
theorem Ad1(s:PS)(c a:Int):(DN s c a).i=s.i:=by unfold DN;split<;>rfl
theorem Aou(T:List Tk)(s:PS):(DH T s).i=s.i:=Ad1 _ _ _
section
variable{e:Pe}{w:World}{s:PS}{A:Acc}{l:List En}{r:Rp}
theorem PMr.cellsS(h:PMr e w s A l r):JD w ⟨e.bs,0,none⟩ [e.L.v,.int .i64 s.i,.int .i64 s.code,.int .i64 s.at_]:=.all h.st
theorem PMr.now{K:Tk→World→Prop}(h:PMr e w s A l r)(c:∀ w',PMr e w' s A l r→K (ZN e.T s) w'):QW (some ⟨e.bs,0,none⟩) K w:=by
  refine AdB _ _ _ ?_
  unfold Aas
  refine h.bx fun b w1 h1 => ?_
  refine h1.dw fun w2 h2 => ?_
  refine⟨fun w'=>JD w' ⟨e.bs,0,none⟩ [e.L.v,.int .i64 s.i,.int .i64 s.code,.int .i64 s.at_]∧Ext e.w0 w',⟨h2.cellsS,h2.base⟩,JM rfl ?_⟩
  refine JV (x:=(s.i:Int)) (fun w' hs=>hs.1 1 _ rfl) ?_
  refine JM rfl (MV (x:=e.L) (fun w' hs=>hs.1 0 _ rfl) ?_)
  have hn:=e.hT.n
  refine JE (fun hb => ?_) (fun hb => ?_)
  · have hlt:s.i<e.T.length:=by simp at hb;omega
    obtain⟨a,ha,hc⟩:=e.hT.cells s.i e.T[s.i] (List.getElem?_eq_getElem hlt)
    have hnow:ZN e.T s=e.T[s.i]:=by unfold ZN;rw[List.getElem?_eq_getElem hlt]
    refine h2.dw fun w3 h3 => ?_
    refine⟨fun w'=>JD w' ⟨e.bs,0,none⟩ [e.L.v,.int .i64 s.i,.int .i64 s.code,.int .i64 s.at_]∧Ext e.w0 w',⟨h3.cellsS,h3.base⟩,JM rfl ?_⟩
    refine MV (x:=e.L) (fun w' hs=>hs.1 0 _ rfl) (JM rfl ?_)
    refine JV (x:=(s.i:Int)) (fun w' hs=>hs.1 1 _ rfl) ?_
    refine JM ha ⟨by omega,by omega,?_⟩
    refine Ah5 (x:=e.T[s.i]) (fun w' hs=>by simpa using hc.ext hs.2) ?_
    refine h3.st_tk 0 rfl rfl fun w4 h4 => ?_
    refine FW (h4.cells (List.mem_cons_self ..)) ?_
    refine Rt.mk (h:=VT) _ (hnow▸c w4 ?_)
    obtain⟨xss,r1,hz,hm⟩:=h4
    exact⟨xss,r1,hz,hm.sub (.cons_cons _ ((List.Sublist.refl _).append (List.sublist_cons_self ..)))⟩
  · have hge:e.T.length≤s.i:=by simp at hb;omega
    have hnow:ZN e.T s=⟨9,⟨#[]⟩,Aeb e.T⟩:=by unfold ZN;rw[List.getElem?_eq_none hge]
    refine JM rfl (CR (x:=e.L) (h2.cellsS 0 _ rfl) ?_)
    refine JE (fun hb2 => ?_) (fun hb2 => ?_)
    · have hpos:0<e.T.length:=by simp at hb2;omega
      have hlast:e.T[e.T.length - 1]? = some e.T[e.T.length - 1]:=List.getElem?_eq_getElem (by omega)
      obtain⟨a,ha,hc⟩:=e.hT.cells _ _ hlast
      have hlen:=e.hT.len
      have hwr:IntKind.i64.wrap ((e.L.n:Int) - 1)=((e.T.length - 1:Nat):Int):=by
        rw[JY (by omega) (by omega)];omega
      have hla:Aeb e.T=(e.T[e.T.length - 1]).At:=by
        unfold Aeb
        rw[List.getLast?_eq_getElem?,hlast]
      refine h2.dw fun w3 h3 => ?_
      refine⟨fun w'=>JD w' ⟨e.bs,0,none⟩ [e.L.v,.int .i64 s.i,.int .i64 s.code,.int .i64 s.at_]∧Ext e.w0 w',⟨h3.cellsS,h3.base⟩,JM rfl ?_⟩
      refine MV (x:=e.L) (fun w' hs=>hs.1 0 _ rfl) (JM rfl ?_)
      refine MV (x:=e.L) (fun w' hs=>hs.1 0 _ rfl) ?_
      rw[hwr]
      refine JM ha ⟨by omega,by omega,?_⟩
      refine JV (x:=(e.T[e.T.length - 1]).At) (fun w' hs=>by simpa using hc.ext hs.2 2 _ rfl) ?_
      refine h3.st_tk 0 rfl rfl fun w4 h4 => ?_
      refine FW (h4.cells (List.mem_cons_self ..)) ?_
      refine Rt.mk (h:=VT) _ ?_
      rw[← hla,← hnow]
      refine c w4 ?_
      obtain⟨xss,r1,hz,hm⟩:=h4
      exact⟨xss,r1,hz,hm.sub (.cons_cons _ ((List.Sublist.refl _).append (List.sublist_cons_self ..)))⟩
    · have hnil:e.T = []:=List.eq_nil_of_length_eq_zero (by simp at hb2;omega)
      refine h2.st_tk 0 rfl rfl fun w4 h4 => ?_
      refine FW (h4.cells (List.mem_cons_self ..)) ?_
      refine Rt.mk (h:=VT) _ ?_
      have:ZN e.T s=⟨9,⟨#[]⟩,0⟩:=by rw[hnow,hnil];rfl
      rw[← this]
      refine c w4 ?_
      obtain⟨xss,r1,hz,hm⟩:=h4
      exact⟨xss,r1,hz,hm.sub (.cons_cons _ ((List.Sublist.refl _).append (List.sublist_cons_self ..)))⟩
theorem PM.now{K:Tk→World→Prop}(h:PM e w s A l r)(c:∀ w',PM e w' s A l r→K (ZN e.T s) w'):QW (some ⟨e.bs,0,none⟩) K w:=h.1.now fun w' h'=>c w' ⟨h',h.2⟩
theorem PM.bad{K:Bool→World→Prop}(h:PM e w s A l r)(c:K s.bad w):YM (some ⟨e.bs,0,none⟩) K w:=by
  refine Adz _ _ _ ?_
  unfold Aaq
  refine JM rfl (JO (x:=s.code) (h.1.cellsS 2 _ rfl) ?_)
  exact RtB _ c
theorem PMr.set_i{K:World→Prop}{i:Nat}{v:Int}(h:PMr e w s A l r)(hv:v=(i:Int))(c:∀ w',PMr e w' ⟨i,s.code,s.at_⟩ A l r→K w'):YX ((⟨e.bs,0,none⟩:Addr).add 1) v K w:=by
  subst hv
  rw[GQ]
  refine MB h.st (by simp) fun w' h'=>c w' ?_
  exact h.turn (s':=⟨i,s.code,s.at_⟩) h'
theorem PM.inc{K:World→Prop}(h:PM e w s A l r)(hi:s.i<e.T.length)(c:∀ w',PM e w' s.inc A l r→K w') :
    nn (some (⟨e.bs,0,none⟩:Addr)) fun a2=>JK (a2.add 1) (fun i3 w=>nn (some (⟨e.bs,0,none⟩:Addr)) fun a4=>YX (a4.add 1) (IntKind.i64.wrap (i3+1)) K w) w:=by
  have hl:=e.hT.len
  refine JM rfl (JO (x:=(s.i:Int)) (h.1.cellsS 1 _ rfl) (JM rfl ?_))
  refine h.1.set_i (i:=s.i+1) (by rw[JY (by omega) (by omega)];omega) fun w' h'=>c w' ⟨h',by simp only[PS.inc];omega⟩
theorem PM.fault{K:Unit→World→Prop}(h:PM e w s A l r)(code at_:Int)(c:∀ w',PM e w' (DN s code at_) A l r→K () w'):VK (some ⟨e.bs,0,none⟩) code at_ K w:=by
  refine Ab0 _ _ _ _ _ ?_
  unfold RJ
  refine h.bad ?_
  refine JE (fun hb => ?_) (fun hb => ?_)
  · have hb':s.bad=false:=by simpa using hb
    refine JM rfl ?_
    rw[GQ]
    refine YH h.1.st (by simp) fun w' h' => ?_
    refine Rt.mk (h:=QK) () (c w' ?_)
    have:DN s code at_=⟨s.i,code,at_⟩:=by unfold DN;rw[hb'];rfl
    rw[this]
    exact⟨h.1.turn (s':=⟨s.i,code,at_⟩) h',h.2⟩
  · have hb':s.bad=true:=by simpa using hb
    have:DN s code at_=s:=by unfold DN;rw[hb'];rfl
    refine Rt.mk (h:=QK) () (c w ?_)
    rw[this];exact h
theorem PM.wrong{K:Unit→World→Prop}(h:PM e w s A l r)(c:∀ w',PM e w' (DH e.T s) A l r→K () w'):QZ (some ⟨e.bs,0,none⟩) K w:=by
  refine Ab5 _ _ _ ?_
  unfold RO
  refine h.now fun w1 h1=>h1.fault _ _ fun w2 h2=>Rt.mk (h:=QK) () (c w2 h2)
theorem PM.un{x:En}(h:PM e w s A (x :: l) r):PM e w s A l r:=h.sub (List.sublist_cons_self ..) fun _ h=>h
theorem PM.is{K:Bool→World→Prop}(h:PM e w s A l r)(kind:Int)(text:ByteArray)(c:∀ w',PM e w' s A l r→K (isP e.T kind text s) w'):IF (some ⟨e.bs,0,none⟩) kind text K w:=by
  refine Ae0 _ _ _ _ _ ?_
  unfold Abl
  refine h.now fun w1 h1=>h1.bx fun b w2 h2=>h2.st_tk 0 rfl rfl fun w3 h3 => ?_
  replace h3:PM e w3 s A (.box b (.cells (ZN e.T s).cells 131) :: l) r:=h3
  refine h3.bad ?_
  have fin:∀ b',isP e.T kind text s=b'→Rt JS K (.bool b') w3:=fun b' hb=>RtB _ (hb▸c w3 h3.un)
  refine JE (fun hb => ?_) (fun hb => ?_)
  · refine h3.ld_tkKind (List.mem_cons_self ..) (JE (fun hb2 => ?_) (fun hb2 => ?_))
    · refine h3.ld_tkText (List.mem_cons_self ..) (fin _ ?_)
      unfold isP;rw[hb,hb2];rfl
    · refine fin _ ?_
      unfold isP;rw[hb,hb2];rfl
  · refine fin _ ?_
    unfold isP;rw[hb];rfl
theorem PM.sign{K:Bool→World→Prop}(h:PM e w s A l r)(text:ByteArray)(c:∀ w',PM e w' s A l r→K (isP e.T 5 text s) w'):VD (some ⟨e.bs,0,none⟩) text K w:=by
  refine Ade _ _ _ _ ?_
  unfold TO
  exact h.is _ _ fun w' h'=>RtB _ (c w' h')
theorem PM.word{K:Bool→World→Prop}(h:PM e w s A l r)(text:ByteArray)(c:∀ w',PM e w' s A l r→K (isP e.T 2 text s) w'):XJ (some ⟨e.bs,0,none⟩) text K w:=by
  refine Adi _ _ _ _ ?_
  unfold TS
  exact h.is _ _ fun w' h'=>RtB _ (c w' h')
theorem PM.take{K:Bool→World→Prop}(h:PM e w s A l r)(kind:Int)(hk:kind≠9)(text:ByteArray)(c:∀ w',PM e w' (JH e.T kind text s) A l r→K (isP e.T kind text s) w'):JJ (some ⟨e.bs,0,none⟩) kind text K w:=by
  refine Adg _ _ _ _ _ ?_
  unfold TQ
  refine h.is _ _ fun w1 h1=>JE (fun hb => ?_) (fun hb => ?_)
  · have hb':isP e.T kind text s=false:=by simpa using hb
    have ht:JH e.T kind text s=s:=by unfold JH;rw[hb'];rfl
    refine RtB _ (hb'▸c w1 (ht.symm▸h1))
  · have hb':isP e.T kind text s=true:=by simpa using hb
    have ht:JH e.T kind text s=s.inc:=by unfold JH;rw[hb'];rfl
    refine h1.inc (AmU hk hb') fun w2 h2=>RtB _ (hb'▸c w2 (ht.symm▸h2))
theorem PM.must{K:Unit→World→Prop}(h:PM e w s A l r)(kind:Int)(hk:kind≠9)(text:ByteArray)(c:∀ w',PM e w' (GF e.T kind text s) A l r→K () w'):JU (some ⟨e.bs,0,none⟩) kind text K w:=by
  refine Adb _ _ _ _ _ ?_
  unfold TM
  refine h.take kind hk text fun w1 h1=>JE (fun hb => ?_) (fun hb => ?_)
  · have hb':isP e.T kind text s=false:=by simpa using hb
    have ht:JH e.T kind text s=s:=by unfold JH;rw[hb'];rfl
    have hm:GF e.T kind text s=DH e.T s:=by unfold GF;rw[hb'];rfl
    rw[ht] at h1
    refine h1.wrong fun w2 h2=>Rt.mk (h:=QK) () (c w2 (hm.symm▸h2))
  · have hb':isP e.T kind text s=true:=by simpa using hb
    have hm:GF e.T kind text s=JH e.T kind text s:=by unfold GF JH;rw[hb'];rfl
    exact Rt.mk (h:=QK) () (c w1 (hm.symm▸h1))
theorem PM.mustKind{K:Unit→World→Prop}(h:PM e w s A l r)(kind:Int)(hk:kind≠9)(c:∀ w',PM e w' (ZZ e.T kind s) A l r→K () w'):UJ (some ⟨e.bs,0,none⟩) kind K w:=by
  refine Aaf _ _ _ _ ?_
  unfold KZ
  refine h.now fun w1 h1=>JE (fun hb => ?_) (fun hb => ?_)
  · have hb':((ZN e.T s).Kind==kind)=false:=by simpa using hb
    have hm:ZZ e.T kind s=DH e.T s:=by unfold ZZ;rw[hb'];rfl
    refine h1.wrong fun w2 h2=>Rt.mk (h:=QK) () (c w2 (hm.symm▸h2))
  · have hb':(ZN e.T s).Kind=kind:=by simpa using hb
    have hm:ZZ e.T kind s=s.inc:=by unfold ZZ;rw[hb'];simp
    refine h1.inc (SU (by rw[hb'];exact hk)) fun w2 h2=>Rt.mk (h:=QK) () (c w2 (hm.symm▸h2))
theorem PM.then{K:Tk→World→Prop}(h:PM e w s A l r)(c:∀ w',PM e w' s A l r→K (RZ e.T s) w'):BA (some ⟨e.bs,0,none⟩) K w:=by
  have hl:=e.hT.len
  have hi:=h.2
  refine Adh _ _ _ ?_
  unfold TR
  refine h.1.bx fun b w1 h1=>JM rfl (JO (x:=(s.i:Int)) (h1.cellsS 1 _ rfl) (JM rfl ?_))
  refine h1.set_i (i:=s.i+1) (by rw[JY (by omega) (by omega)];omega) fun w2 h2 => ?_
  refine h2.now fun w3 h3=>h3.bx fun b2 w4 h4=>h4.st_tk 0 rfl rfl fun w5 h5 => ?_
  refine JM rfl (JO (x:=((s.i+1:Nat):Int)) (h5.cellsS 1 _ rfl) (JM rfl ?_))
  refine h5.set_i (i:=s.i) (by rw[JY (by omega) (by omega)];omega) fun w6 h6 => ?_
  refine AcU (h6.cells (List.mem_cons_self ..)) ?_
  refine h6.st_tk 1 rfl rfl fun w7 h7 => ?_
  refine FW (h7.cells (List.mem_cons_of_mem _ (List.mem_cons_self ..))) ?_
  refine Rt.mk (h:=VT) _ (c w7 ?_)
  obtain⟨xss,r1,hz,hm⟩:=h7
  exact⟨⟨xss,r1,hz,hm.sub (.cons_cons _ ((List.Sublist.refl _).append (.cons _ (.cons _ (List.Sublist.refl _)))))⟩,hi⟩
theorem JR{α:Type}{a:α}{l:List α}:a∈a :: l:=List.mem_cons_self ..
theorem QF{α:Type}{a b:α}{l:List α}:a∈b :: a :: l:=List.mem_cons_of_mem _ JR
theorem QP{α:Type}{a b c:α}{l:List α}:a∈b :: c :: a :: l:=List.mem_cons_of_mem _ QF
theorem QQ{α:Type}{a b c d:α}{l:List α}:a∈b :: c :: d :: a :: l:=List.mem_cons_of_mem _ QP
theorem QR{α:Type}{a b c d f:α}{l:List α}:a∈b :: c :: d :: f :: a :: l:=List.mem_cons_of_mem _ QQ
theorem QT{α:Type}{a b c d f g:α}{l:List α}:a∈b :: c :: d :: f :: g :: a :: l:=List.mem_cons_of_mem _ QR
def nod(k a:Int)(t:ByteArray)(ks:List Nd):Nd:=.mk k a t false [] ks
def Ah9(k a:Int)(t:ByteArray)(s:Sl):JA:=⟨k,a,t,false,⟨none,0,0⟩,s⟩
theorem Aqp{xs:List JA}{i j:Nat}{x:JA}(h:xs[i]? = some x)(hj:j<6):(VM xs)[i * 6+j]? = x.cells.toList[j]?:=by
  induction xs generalizing i with
  | nil=>simp at h
  | cons y ys ih=>
    have hy:y.cells.toList.length=6:=rfl
    cases i with
    | zero=>
      simp only[List.getElem?_cons_zero,Option.some.injEq] at h
      subst h
      simp only[VM,List.flatMap_cons,Nat.zero_mul,Nat.zero_add]
      rw[List.getElem?_append_left (by omega)]
    | succ i=>
      simp only[List.getElem?_cons_succ] at h
      have:=ih h
      simp only[VM,List.flatMap_cons] at this ⊢
      rw[List.getElem?_append_right (by omega),hy,← this]
      congr 1;omega
theorem An5{w:World}{I:Nat→Prop}{r:Rp}(hr:∀ q∈r,AA w I q.1 q.2):∀ {ns:List Nd} {xs:List JA},Zp r ns xs→∀ {a:Addr},I a.block→(∀ i v,(VM xs)[i]? = some v→w.cell? (a.add i)=some v)→OP w I ns (some a)
  | [],[],_,a,_,_=>by unfold OP;trivial
  | n :: ns,x :: xs,hz,a,ha,hc=>by
    unfold OP
    have hlen:x.cells.toList.length=6:=rfl
    refine⟨a,rfl,ha,⟨x,fun i v hi=>hc i v ?_,hr _ hz.1⟩,?_⟩
    · have hlt:i<6:=by have:=(List.getElem?_eq_some_iff.1 hi).1;omega
      simp only[VM,List.flatMap_cons]
      rw[List.getElem?_append_left (by omega)];exact hi
    · refine An5 hr hz.2 (by rw[AhT];exact ha) fun i v hi => ?_
      rw[II]
      refine hc (6+i) v ?_
      simp only[VM,List.flatMap_cons] at hi ⊢
      rw[List.getElem?_append_right (by omega),hlen,show 6+i - 6=i by omega];exact hi
  | [],_ :: _,hz,_,_,_=>hz.elim
  | _ :: _,[],hz,_,_,_=>hz.elim
theorem PM.add{n:Nd}{x:JA}(h:PM e w s A l r)(f:∀ I,(∀ q∈r,AA w I q.1 q.2)→AA w I n x):PM e w s A l ((n,x) :: r):=by
  obtain⟨⟨xss,r1,hz,I,h1,h2,h3⟩,hi⟩:=h
  refine⟨⟨xss,r1,hz,I,h1,h2,fun q hq => ?_⟩,hi⟩
  rcases List.mem_append.1 hq with hq | hq
  · exact h3 q (List.mem_append_left _ hq)
  · rcases List.mem_cons.1 hq with rfl | hq
    · exact f I fun q hq=>h3 q (List.mem_append_right _ hq)
    · exact h3 q (List.mem_append_right _ hq)
theorem PM.leaf(h:PM e w s A l r)(k a:Int)(t:ByteArray):PM e w s A l ((nod k a t [],Ah9 k a t ⟨none,0,0⟩) :: r):=by
  refine h.add fun I _ => ?_
  unfold nod Ah9 AA
  refine⟨rfl,rfl,rfl,rfl,⟨rfl,Nat.le_refl _,nofun,fun _=>rfl,nofun⟩,rfl,Nat.le_refl _,Nat.zero_le _,fun _=>rfl,?_⟩
  unfold OP;trivial
theorem PM.relabel{k a:Int}{t:ByteArray}{g:Bool}{m:List Int}{ks:List Nd}{x:JA}(h:PM e w s A l r)(hx:(Nd.mk k a t g m ks,x)∈r)(k' a':Int)(t':ByteArray):PM e w s A l ((.mk k' a' t' g m ks,⟨k',a',t',x.Num_Neg,x.Num_Mag,x.Kids⟩) :: r):=by
  refine h.add fun I hr => ?_
  have:=hr _ hx
  unfold AA at this ⊢
  obtain⟨_,_,_,h4,h5,h6⟩:=this
  exact⟨rfl,rfl,rfl,h4,h5,h6⟩
theorem PM.kids{sl:Sl}{ns:List Nd}(h:PM e w s ((sl,ns) :: A) l r)(k a:Int)(t:ByteArray):PM e w s A l ((nod k a t ns,Ah9 k a t sl) :: r):=by
  obtain⟨⟨xss,r1,hz,I,h1,h2,h3⟩,hi⟩:=h
  cases xss with
  | nil=>exact hz.elim
  | cons xs xss=>
    obtain⟨⟨hz1,hlen⟩,hz2⟩:=hz
    have hp:Mx e.w0.heap.size I w (An6 sl xs :: (.box e.bs (AiS e.L s) :: (AcB A xss++l))):=h1.perm (.swap _ _ _)
    have hown:Own w e.w0.heap.size 27 6 sl (VM xs):=hp.ok (An6 sl xs) (by simp)
    have hfz:=hp.freeze
    have hw:∀ q∈r1++r,AA w (fun i=>I i∨(An6 sl xs).has i) q.1 q.2:=fun q hq=>AA.keep (Ext.refl w) (fun _ _ h=>h) (fun _ h=>.inl h) _ _ (h3 q hq)
    refine⟨⟨xss,r1,hz2,_,hfz,h2,fun q hq => ?_⟩,hi⟩
    rcases List.mem_append.1 hq with hq | hq
    · exact hw q (List.mem_append_left _ hq)
    · rcases List.mem_cons.1 hq with rfl | hq
      · unfold nod Ah9 AA
        have hz1':Zp (r1++r) ns xs:=hz1.mono fun q hq=>List.mem_append_left _ hq
        refine⟨rfl,rfl,rfl,rfl,⟨rfl,Nat.le_refl _,nofun,fun _=>rfl,nofun⟩,?_⟩
        obtain⟨ho1,ho2⟩:=hown
        have hlx:xs.length=ns.length:=hz1.length
        replace hlen:sl.n=xs.length:=hlen
        rcases ho2 with⟨hv,hn0⟩ | ⟨g,cap,cur,hv,hb,hg,hncap,hmax,hcs,htake⟩
        · simp only[Sl.v,Value.slice.injEq] at hv
          have hns:ns = []:=List.eq_nil_of_length_eq_zero (by omega)
          subst hns
          refine⟨by simp only[List.length_nil];omega,by simp only;omega,by simp only;omega,fun _=>hv.2.2,?_⟩
          unfold OP;trivial
        · simp only[Sl.v,Value.slice.injEq] at hv
          refine⟨by simp only;omega,by simp only;omega,by simp only;unfold maxLen at hmax;omega,fun hc => ?_,?_⟩
          · simp only at hc;rw[hv.1] at hc;cases hc
          · simp only
            rw[hv.1]
            refine An5 hw hz1' (.inr hv.1) fun i v hi => ?_
            rw[GQ]
            refine Aax hg ?_
            rw[← htake,List.getElem?_take] at hi
            split at hi
            · simpa using hi
            · cases hi
      · exact hw q (List.mem_append_right _ hq)
theorem PM.node{sl:Sl}{ns:List Nd}{K:JA→World→Prop}(h:PM e w s ((sl,ns) :: A) l r)(k a:Int)(t:ByteArray)(c:∀ w',PM e w' s A l ((nod k a t ns,Ah9 k a t sl) :: r)→K (Ah9 k a t sl) w'):JI k a t sl K w:=by
  refine PV _ _ _ _ _ _ ?_
  unfold SF
  refine h.bx fun b w1 h1=>h1.st_nd 0 rfl rfl fun w2 h2 => ?_
  refine h2.lr_nd JR (Rt.mk (h:=JQ) _ (c w2 ?_))
  exact PM.kids (h2.sub (l':=l) (List.sublist_cons_self ..) fun _ h=>h) k a t
theorem PM.node0{K:JA→World→Prop}(h:PM e w s A l r)(k a:Int)(t:ByteArray)(c:∀ w',PM e w' s A l ((nod k a t [],Ah9 k a t ⟨none,0,0⟩) :: r)→K (Ah9 k a t ⟨none,0,0⟩) w'):JI k a t ⟨none,0,0⟩ K w:=by
  refine PV _ _ _ _ _ _ ?_
  unfold SF
  refine h.bx fun b w1 h1=>h1.st_nd 0 rfl rfl fun w2 h2 => ?_
  refine h2.lr_nd JR (Rt.mk (h:=JQ) _ (c w2 ?_))
  exact PM.leaf (h2.sub (l':=l) (List.sublist_cons_self ..) fun _ h=>h) k a t
theorem PM.nothing{K:JA→World→Prop}(h:PM e w s A l r)(a:Int)(c:∀ w',PM e w' s A l ((nod 0 a ⟨#[]⟩ [],Ah9 0 a ⟨#[]⟩ ⟨none,0,0⟩) :: r)→K (Ah9 0 a ⟨#[]⟩ ⟨none,0,0⟩) w'):DL a K w:=by
  refine AfU _ _ _ ?_
  unfold AcP
  refine h.bx fun b w1 h1=>h1.st_nd 0 rfl rfl fun w2 h2 => ?_
  refine h2.lr_nd JR (Rt.mk (h:=JQ) _ (c w2 ?_))
  exact PM.leaf (h2.sub (l':=l) (List.sublist_cons_self ..) fun _ h=>h) 0 a ⟨#[]⟩
theorem PM.acc0(h:PM e w s A l r):PM e w s ((⟨none,0,0⟩,[]) :: A) l r:=by
  obtain⟨⟨xss,r1,hz,hm⟩,hi⟩:=h
  refine⟨⟨[] :: xss,r1,⟨⟨trivial,rfl⟩,hz⟩,?_⟩,hi⟩
  exact(hm.nil_row 27 6).perm (.swap _ _ _)
theorem PM.accB{b m:Nat}{cs:Array Value}{ns:List Nd}{xs:List JA}(h:PM e w s A (.box b (.cells cs 27) :: l) r)(hz:Zp r ns xs)(hm:m=xs.length)(hc:cs.toList=VM xs)(hm2:m≤4294967296):PM e w s ((⟨some ⟨b,0,none⟩,m,m⟩,ns) :: A) l r:=by
  obtain⟨⟨xss,r1,hz1,hM⟩,hi⟩:=h
  have hp:(En.box e.bs (AiS e.L s) :: (AcB A xss++En.box b (.cells cs 27) :: l)).Perm (En.box b (.cells cs 27) :: En.box e.bs (AiS e.L s) :: (AcB A xss++l)):=
    (List.Perm.cons _ List.perm_middle).trans (.swap _ _ _)
  have hM2:=hM.perm hp
  have hsz:cs.size=m * 6:=by
    have h1:cs.toList.length=(VM xs).length:=by rw[hc]
    rw[show(VM xs).length=xs.length * 6 from flat_len' xs] at h1
    simp at h1;omega
  have hr:=hM2.row (n:=m) (sz:=6) hsz hm2
  rw[hc] at hr
  refine⟨⟨xs :: xss,r1++r,⟨⟨hz.mono fun q hq=>List.mem_append_right _ hq,hm⟩,hz1.mono fun q hq=>List.mem_append_left _ hq⟩,?_⟩,hi⟩
  refine XP.sub (hr.perm (.swap _ _ _)) fun q hq => ?_
  rcases List.mem_append.1 hq with hq | hq
  · exact hq
  · exact List.mem_append_right _ hq
where
  flat_len':∀ xs:List JA,(VM xs).length=xs.length * 6
    | []=>rfl
    | x :: xs=>by
      have:x.cells.toList.length=6:=rfl
      have h2:=flat_len' xs
      simp only[VM,List.flatMap_cons,List.length_append,List.length_cons] at h2 ⊢
      omega
end
end Go.Proofs.YtjiagmjfnbljjaaGreatDoor
end
section
namespace Go.Proofs.YtjiagmjfnbljjaaGreatDoor
open Go
structure Lv where
  expr:PS→Option (Nd×PS)
  or_:PS→Option (Nd×PS)
  orL:Nd→PS→Option (Nd×PS)
  and_:PS→Option (Nd×PS)
  andL:Nd→PS→Option (Nd×PS)
  not_:PS→Option (Nd×PS)
  compare:PS→Option (Nd×PS)
  row:Nat→PS→Option (Nd×PS)
  rowL:Nat→Nd→PS→Option (Nd×PS)
  minus:PS→Option (Nd×PS)
  postfix_:PS→Option (Nd×PS)
  postL:Nd→PS→Option (Nd×PS)
  atom:PS→Option (Nd×PS)
  round:Int→PS→Option (Nd×PS)
  square:Int→PS→Option (Nd×PS)
  curly:Int→PS→Option (Nd×PS)
  more:List Nd→PS→Option (List Nd×PS)
  comp:List Nd→PS→Option (List Nd×PS)
  compL:List Nd→PS→Option (List Nd×PS)
  item:PS→Option (Nd×PS)
  items:List Nd→PS→Option (List Nd×PS)
  args:List Nd→Int→PS→Option (List Nd×PS)
  exprs:PS→Option (Nd×PS)
  targets:PS→Option (Nd×PS)
  targL:List Nd→PS→Option (List Nd×PS)
  names:List Nd→PS→Option (List Nd×PS)
  assigned:Nd→PS→Option (Nd×PS)
  simple:PS→Option (Nd×PS)
  block:PS→Option (Nd×PS)
  blockL:List Nd→PS→Option (List Nd×PS)
  choice:Int→PS→Option (Nd×PS)
  params:List Nd→Bool→PS→Option (List Nd×PS)
  caught:List Nd→Bool→PS→Option (List Nd×PS)
  stmt:PS→Option (Nd×PS)
  parseL:List Nd→PS→Option (List Nd×PS)
def BG(n:Nd):Bool:=n.kind==31 || n.kind==53 || n.kind==54
def Ao3(n:Nd)(a:Int):Nd:=match n with
  | .mk k _ t g m ks=>.mk k a t g m ks
section
variable(num:ByteArray→(Bool×List Int)×Bool)(T:List Tk)(R:Lv)
def AeJ(t:Tk):Bool:=
  if t.Kind==1 then CI t else
  if t.Kind==3 then(num t.Text).2 else
  if t.Kind==4 then MD t.Text else
  if t.Kind==2 then(t.Text.toList==(⟨#[78,111,110,101]⟩:ByteArray).toList || (t.Text.toList==(⟨#[84,114,117,101]⟩:ByteArray).toList || (t.Text.toList==(⟨#[70,97,108,115,101]⟩:ByteArray).toList || t.Text.toList==(⟨#[110,111,116]⟩:ByteArray).toList))) else
  if t.Kind==5 then(t.Text.toList==(⟨#[40]⟩:ByteArray).toList || (t.Text.toList==(⟨#[91]⟩:ByteArray).toList || (t.Text.toList==(⟨#[123]⟩:ByteArray).toList || t.Text.toList==(⟨#[45]⟩:ByteArray).toList))) else false
def MT(s:PS):Bool:=!s.bad && AeJ num (ZN T s)
def AmM(t:Tk):Bool:=(t.Text.toList==(⟨#[110,111,116]⟩:ByteArray).toList && t.Kind==2) || (t.Text.toList==(⟨#[45]⟩:ByteArray).toList && t.Kind==5)
def Aj8(s:PS):Option (Nd×PS):=
  if !MT num T s || AmM (ZN T s) then some (nod 0 0 (⟨#[]⟩:ByteArray) [],DH T s) else
  if (ZN T s).Kind==1 then some (nod 31 (ZN T s).At (ZN T s).Text [],s.inc) else
  if (ZN T s).Kind==3 then some (.mk 32 (ZN T s).At (⟨#[]⟩:ByteArray) (num (ZN T s).Text).1.1 (num (ZN T s).Text).1.2 [],s.inc) else
  if (ZN T s).Kind==4 then some (nod 33 (ZN T s).At (ZN T s).Text [],s.inc) else
  if (ZN T s).Kind==2 then some (nod 34 (ZN T s).At (ZN T s).Text [],s.inc) else
  if (ZN T s).Text.toList==(⟨#[40]⟩:ByteArray).toList then R.round (ZN T s).At s.inc else
  if (ZN T s).Text.toList==(⟨#[91]⟩:ByteArray).toList then R.square (ZN T s).At s.inc else R.curly (ZN T s).At s.inc
def Agk(a:Int)(s:PS):Option (Nd×PS):=
  if isP T 5 (⟨#[41]⟩:ByteArray) s then some (nod 35 a (⟨#[]⟩:ByteArray) [],JH T 5 (⟨#[41]⟩:ByteArray) s) else
  (R.expr (JH T 5 (⟨#[41]⟩:ByteArray) s)).bind fun p=>
  if !isP T 5 (⟨#[44]⟩:ByteArray) p.2 then some (p.1,GF T 5 (⟨#[41]⟩:ByteArray) p.2) else
  (R.more [p.1] p.2).bind fun q=>some (nod 35 a (⟨#[]⟩:ByteArray) q.1,GF T 5 (⟨#[41]⟩:ByteArray) q.2)
def AkC(l:List Nd)(s:PS):Option (List Nd×PS):=
  if isP T 5 (⟨#[44]⟩:ByteArray) s then
    if !MT num T (JH T 5 (⟨#[44]⟩:ByteArray) s) then some (l,JH T 5 (⟨#[44]⟩:ByteArray) s) else
    (R.expr (JH T 5 (⟨#[44]⟩:ByteArray) s)).bind fun p=>R.more (l ++ [p.1]) p.2
  else some (l,JH T 5 (⟨#[44]⟩:ByteArray) s)
def AcJ(a:Int)(s:PS):Option (Nd×PS):=
  if isP T 5 (⟨#[93]⟩:ByteArray) s then some (nod 36 a (⟨#[]⟩:ByteArray) [],JH T 5 (⟨#[93]⟩:ByteArray) s) else
  (R.expr (JH T 5 (⟨#[93]⟩:ByteArray) s)).bind fun p=>
  if isP T 2 (⟨#[102,111,114]⟩:ByteArray) p.2 then(R.comp [p.1] p.2).bind fun q=>some (nod 41 a (⟨#[]⟩:ByteArray) q.1,GF T 5 (⟨#[93]⟩:ByteArray) q.2) else
  (R.more [p.1] p.2).bind fun q=>some (nod 36 a (⟨#[]⟩:ByteArray) q.1,GF T 5 (⟨#[93]⟩:ByteArray) q.2)
def Akb(l:List Nd)(s:PS):Option (List Nd×PS):=
  (R.targets (GF T 2 (⟨#[102,111,114]⟩:ByteArray) s)).bind fun p=>
  (R.or_ (GF T 2 (⟨#[105,110]⟩:ByteArray) p.2)).bind fun q=>R.compL ((l ++ [p.1]) ++ [q.1]) q.2
def AfY(l:List Nd)(s:PS):Option (List Nd×PS):=
  if isP T 2 (⟨#[105,102]⟩:ByteArray) s then(R.or_ (JH T 2 (⟨#[105,102]⟩:ByteArray) s)).bind fun p=>R.compL (l ++ [p.1]) p.2 else some (l,JH T 2 (⟨#[105,102]⟩:ByteArray) s)
def Aku(s:PS):Option (Nd×PS):=
  if isP T 5 (⟨#[42,42]⟩:ByteArray) s then(R.expr (JH T 5 (⟨#[42,42]⟩:ByteArray) s)).bind fun p=>some (nod 40 (ZN T s).At (⟨#[]⟩:ByteArray) [p.1],p.2) else
  (R.expr (JH T 5 (⟨#[42,42]⟩:ByteArray) s)).bind fun p=>
  (R.expr (GF T 5 (⟨#[58]⟩:ByteArray) p.2)).bind fun q=>some (nod 39 p.1.at_ (⟨#[]⟩:ByteArray) [p.1,q.1],q.2)
def Af6(l:List Nd)(s:PS):Option (List Nd×PS):=
  if isP T 5 (⟨#[44]⟩:ByteArray) s then
    if !MT num T (JH T 5 (⟨#[44]⟩:ByteArray) s) && !isP T 5 (⟨#[42,42]⟩:ByteArray) (JH T 5 (⟨#[44]⟩:ByteArray) s) then some (l,JH T 5 (⟨#[44]⟩:ByteArray) s) else
    (R.item (JH T 5 (⟨#[44]⟩:ByteArray) s)).bind fun p=>R.items (l ++ [p.1]) p.2
  else some (l,JH T 5 (⟨#[44]⟩:ByteArray) s)
def AfZ(a:Int)(s:PS):Option (Nd×PS):=
  if isP T 5 (⟨#[125]⟩:ByteArray) s then some (nod 38 a (⟨#[]⟩:ByteArray) [],JH T 5 (⟨#[125]⟩:ByteArray) s) else
  if isP T 5 (⟨#[42,42]⟩:ByteArray) (JH T 5 (⟨#[125]⟩:ByteArray) s) then
    (R.item (JH T 5 (⟨#[125]⟩:ByteArray) s)).bind fun p=>(R.items [p.1] p.2).bind fun q=>some (nod 38 a (⟨#[]⟩:ByteArray) q.1,GF T 5 (⟨#[125]⟩:ByteArray) q.2) else
  (R.expr (JH T 5 (⟨#[125]⟩:ByteArray) s)).bind fun p=>
  if isP T 5 (⟨#[58]⟩:ByteArray) p.2 then
    (R.expr (JH T 5 (⟨#[58]⟩:ByteArray) p.2)).bind fun q=>
    if isP T 2 (⟨#[102,111,114]⟩:ByteArray) q.2 then(R.comp [nod 39 p.1.at_ (⟨#[]⟩:ByteArray) [p.1,q.1]] q.2).bind fun u=>some (nod 43 a (⟨#[]⟩:ByteArray) u.1,GF T 5 (⟨#[125]⟩:ByteArray) u.2) else
    (R.items [nod 39 p.1.at_ (⟨#[]⟩:ByteArray) [p.1,q.1]] q.2).bind fun u=>some (nod 38 a (⟨#[]⟩:ByteArray) u.1,GF T 5 (⟨#[125]⟩:ByteArray) u.2) else
  if isP T 2 (⟨#[102,111,114]⟩:ByteArray) (JH T 5 (⟨#[58]⟩:ByteArray) p.2) then(R.comp [p.1] (JH T 5 (⟨#[58]⟩:ByteArray) p.2)).bind fun u=>some (nod 42 a (⟨#[]⟩:ByteArray) u.1,GF T 5 (⟨#[125]⟩:ByteArray) u.2) else
  (R.more [p.1] (JH T 5 (⟨#[58]⟩:ByteArray) p.2)).bind fun u=>some (nod 37 a (⟨#[]⟩:ByteArray) u.1,GF T 5 (⟨#[125]⟩:ByteArray) u.2)
def WN(s:PS):Option (Nd×PS):=(R.atom s).bind fun p=>R.postL p.1 p.2
def Agi(e:Nd)(s:PS):Option (Nd×PS):=
  if s.bad then some (e,s) else
  if isP T 5 (⟨#[40]⟩:ByteArray) s then(R.args [e] 0 (JH T 5 (⟨#[40]⟩:ByteArray) s)).bind fun q=>R.postL (nod 51 e.at_ (⟨#[]⟩:ByteArray) q.1) (GF T 5 (⟨#[41]⟩:ByteArray) q.2) else
  if isP T 5 (⟨#[46]⟩:ByteArray) (JH T 5 (⟨#[40]⟩:ByteArray) s) then R.postL (nod 53 e.at_ (OT T (JH T 5 (⟨#[46]⟩:ByteArray) (JH T 5 (⟨#[40]⟩:ByteArray) s))) [e]) (AZ T (JH T 5 (⟨#[46]⟩:ByteArray) (JH T 5 (⟨#[40]⟩:ByteArray) s))) else
  if isP T 5 (⟨#[91]⟩:ByteArray) (JH T 5 (⟨#[46]⟩:ByteArray) (JH T 5 (⟨#[40]⟩:ByteArray) s)) then(R.exprs (JH T 5 (⟨#[91]⟩:ByteArray) (JH T 5 (⟨#[46]⟩:ByteArray) (JH T 5 (⟨#[40]⟩:ByteArray) s)))).bind fun k=>R.postL (nod 54 e.at_ (⟨#[]⟩:ByteArray) [e,k.1]) (GF T 5 (⟨#[93]⟩:ByteArray) k.2) else
  some (e,JH T 5 (⟨#[91]⟩:ByteArray) (JH T 5 (⟨#[46]⟩:ByteArray) (JH T 5 (⟨#[40]⟩:ByteArray) s)))
def NU(l:List Nd)(st:Int)(s:PS):Option (List Nd×PS):=if !isP T 5 (⟨#[44]⟩:ByteArray) s then some (l,JH T 5 (⟨#[44]⟩:ByteArray) s) else R.args l st (JH T 5 (⟨#[44]⟩:ByteArray) s)
def Aj7(l:List Nd)(st:Int)(s:PS):Option (List Nd×PS):=
  if s.bad || !(MT num T s || isP T 5 (⟨#[42,42]⟩:ByteArray) s) then some (l,s) else
  if (ZN T s).Kind==5 && (ZN T s).Text.toList==(⟨#[42,42]⟩:ByteArray).toList then
    if decide (st > 1) then some (l,DH T s) else
    (R.expr s.inc).bind fun p=>NU T R (l ++ [nod 40 (ZN T s).At (⟨#[]⟩:ByteArray) [p.1]]) 2 p.2 else
  if CI (ZN T s) && ((RZ T s).Kind==5 && (RZ T s).Text.toList==(⟨#[61]⟩:ByteArray).toList) then
    if decide (st > 1) then some (l,DH T s) else
    (R.expr s.inc.inc).bind fun p=>NU T R (l ++ [nod 52 (ZN T s).At (ZN T s).Text [p.1]]) 1 p.2 else
  if decide (st > 0) then some (l,DH T s) else
  (R.expr s).bind fun p=>NU T R (l ++ [p.1]) st p.2
def Agc(s:PS):Option (Nd×PS):=
  if isP T 5 (⟨#[45]⟩:ByteArray) s then(R.minus (JH T 5 (⟨#[45]⟩:ByteArray) s)).bind fun p=>some (nod 50 (ZN T s).At (⟨#[]⟩:ByteArray) [p.1],p.2) else R.postfix_ (JH T 5 (⟨#[45]⟩:ByteArray) s)
def WP(n:Nat):List ByteArray:=match n with
  | 0=>[(⟨#[42]⟩:ByteArray),(⟨#[47,47]⟩:ByteArray),(⟨#[37]⟩:ByteArray)]
  | 1=>[(⟨#[43]⟩:ByteArray),(⟨#[45]⟩:ByteArray)]
  | 2=>[(⟨#[38]⟩:ByteArray)]
  | 3=>[(⟨#[94]⟩:ByteArray)]
  | _=>[(⟨#[124]⟩:ByteArray)]
def Asm(k:Nat)(s:PS):Option (Nd×PS):=match k with
  | 0=>R.minus s
  | n+1=>(R.row n s).bind fun p=>R.rowL n p.1 p.2
def AkS(n:Nat)(e:Nd)(s:PS):Option (Nd×PS):=
  if s.bad then some (e,s) else
  if (BS T s (WP n)).toList==(⟨#[]⟩:ByteArray).toList then some (e,s) else
  (R.row n s.inc).bind fun p=>R.rowL n (nod 49 e.at_ (BS T s (WP n)) [e,p.1]) p.2
def Ag2:List ByteArray:=[(⟨#[61,61]⟩:ByteArray),(⟨#[33,61]⟩:ByteArray),(⟨#[60]⟩:ByteArray),(⟨#[60,61]⟩:ByteArray),(⟨#[62]⟩:ByteArray),(⟨#[62,61]⟩:ByteArray)]
def SH(e:Nd)(op:ByteArray)(s:PS):Option (Nd×PS):=(R.row 5 s).bind fun p=>some (nod 48 e.at_ op [e,p.1],p.2)
def WC(s:PS):Option (Nd×PS):=
  (R.row 5 s).bind fun p=>
  if !((BS T p.2 Ag2).toList==(⟨#[]⟩:ByteArray).toList) then SH R p.1 (BS T p.2 Ag2) p.2.inc else
  if isP T 2 (⟨#[105,110]⟩:ByteArray) p.2 then SH R p.1 (⟨#[105,110]⟩:ByteArray) (JH T 2 (⟨#[105,110]⟩:ByteArray) p.2) else
  if isP T 2 (⟨#[110,111,116]⟩:ByteArray) (JH T 2 (⟨#[105,110]⟩:ByteArray) p.2) then SH R p.1 (⟨#[110,111,116,32,105,110]⟩:ByteArray) (GF T 2 (⟨#[105,110]⟩:ByteArray) (JH T 2 (⟨#[110,111,116]⟩:ByteArray) (JH T 2 (⟨#[105,110]⟩:ByteArray) p.2))) else
  if isP T 2 (⟨#[105,115]⟩:ByteArray) (JH T 2 (⟨#[110,111,116]⟩:ByteArray) (JH T 2 (⟨#[105,110]⟩:ByteArray) p.2)) then
    (if isP T 2 (⟨#[110,111,116]⟩:ByteArray) (JH T 2 (⟨#[105,115]⟩:ByteArray) (JH T 2 (⟨#[110,111,116]⟩:ByteArray) (JH T 2 (⟨#[105,110]⟩:ByteArray) p.2))) then SH R p.1 (⟨#[105,115,32,110,111,116]⟩:ByteArray) (JH T 2 (⟨#[110,111,116]⟩:ByteArray) (JH T 2 (⟨#[105,115]⟩:ByteArray) (JH T 2 (⟨#[110,111,116]⟩:ByteArray) (JH T 2 (⟨#[105,110]⟩:ByteArray) p.2))))
    else SH R p.1 (⟨#[105,115]⟩:ByteArray) (JH T 2 (⟨#[110,111,116]⟩:ByteArray) (JH T 2 (⟨#[105,115]⟩:ByteArray) (JH T 2 (⟨#[110,111,116]⟩:ByteArray) (JH T 2 (⟨#[105,110]⟩:ByteArray) p.2))))) else
  some (p.1,JH T 2 (⟨#[105,115]⟩:ByteArray) (JH T 2 (⟨#[110,111,116]⟩:ByteArray) (JH T 2 (⟨#[105,110]⟩:ByteArray) p.2)))
def AoV(s:PS):Option (Nd×PS):=
  if isP T 2 (⟨#[110,111,116]⟩:ByteArray) s then(R.not_ (JH T 2 (⟨#[110,111,116]⟩:ByteArray) s)).bind fun p=>some (nod 47 (ZN T s).At (⟨#[]⟩:ByteArray) [p.1],p.2) else R.compare (JH T 2 (⟨#[110,111,116]⟩:ByteArray) s)
def AoB(s:PS):Option (Nd×PS):=(R.not_ s).bind fun p=>R.andL p.1 p.2
def Aj4(e:Nd)(s:PS):Option (Nd×PS):=
  if isP T 2 (⟨#[97,110,100]⟩:ByteArray) s then(R.not_ (JH T 2 (⟨#[97,110,100]⟩:ByteArray) s)).bind fun p=>R.andL (nod 46 e.at_ (⟨#[]⟩:ByteArray) [e,p.1]) p.2 else some (e,JH T 2 (⟨#[97,110,100]⟩:ByteArray) s)
def orF(s:PS):Option (Nd×PS):=(R.and_ s).bind fun p=>R.orL p.1 p.2
def AoX(e:Nd)(s:PS):Option (Nd×PS):=
  if isP T 2 (⟨#[111,114]⟩:ByteArray) s then(R.and_ (JH T 2 (⟨#[111,114]⟩:ByteArray) s)).bind fun p=>R.orL (nod 45 e.at_ (⟨#[]⟩:ByteArray) [e,p.1]) p.2 else some (e,JH T 2 (⟨#[111,114]⟩:ByteArray) s)
def Akj(s:PS):Option (Nd×PS):=
  (R.or_ s).bind fun p=>
  if isP T 2 (⟨#[105,102]⟩:ByteArray) p.2 then
    (R.or_ (JH T 2 (⟨#[105,102]⟩:ByteArray) p.2)).bind fun q=>(R.expr (GF T 2 (⟨#[101,108,115,101]⟩:ByteArray) q.2)).bind fun u=>some (nod 44 p.1.at_ (⟨#[]⟩:ByteArray) [p.1,q.1,u.1],u.2)
  else some (p.1,JH T 2 (⟨#[105,102]⟩:ByteArray) p.2)
def Af0(s:PS):Option (Nd×PS):=
  (R.expr s).bind fun p=>
  if !isP T 5 (⟨#[44]⟩:ByteArray) p.2 then some (p.1,p.2) else(R.more [p.1] p.2).bind fun q=>some (nod 35 p.1.at_ (⟨#[]⟩:ByteArray) q.1,q.2)
def AcK(l:List Nd)(s:PS):Option (List Nd×PS):=
  if isP T 5 (⟨#[44]⟩:ByteArray) s then(R.postfix_ (JH T 5 (⟨#[44]⟩:ByteArray) s)).bind fun p=>R.targL (l ++ [p.1]) p.2 else some (l,JH T 5 (⟨#[44]⟩:ByteArray) s)
def OV:List Nd→PS→PS
  | [],s=>s
  | n :: l,s=>OV l (if BG n then s else DN s 108 n.at_)
def Aab(s:PS):Option (Nd×PS):=
  (R.postfix_ s).bind fun p=>(R.targL [p.1] p.2).bind fun q=>
  match q.1 with
  | []=>none
  | n :: l=>some (if l.isEmpty then n else nod 23 n.at_ (⟨#[]⟩:ByteArray) (n :: l),OV (n :: l) q.2)
def OJ:List ByteArray:=[(⟨#[43,61]⟩:ByteArray),(⟨#[45,61]⟩:ByteArray),(⟨#[42,61]⟩:ByteArray),(⟨#[47,47,61]⟩:ByteArray),(⟨#[37,61]⟩:ByteArray),(⟨#[38,61]⟩:ByteArray),(⟨#[124,61]⟩:ByteArray),(⟨#[94,61]⟩:ByteArray)]
def Aps(op:ByteArray):ByteArray:=op.extract 0 (op.size - 1)
def NI(e:Nd)(s:PS):Option (Nd×PS):=
  if isP T 5 (⟨#[61]⟩:ByteArray) s then
    if BG e then(R.exprs s.inc).bind fun p=>some (nod 4 e.at_ (⟨#[]⟩:ByteArray) [e,p.1],p.2) else
    if e.kind != 35 || decide (e.kids.length<2) then some (e,DN s 108 e.at_) else
    if e.kids.all BG then(R.exprs s.inc).bind fun p=>some (nod 5 e.at_ (⟨#[]⟩:ByteArray) [nod 23 e.at_ (⟨#[]⟩:ByteArray) e.kids,p.1],p.2) else some (e,DN s 108 e.at_) else
  if (BS T s OJ).toList==(⟨#[]⟩:ByteArray).toList then some (nod 3 e.at_ (⟨#[]⟩:ByteArray) [e],s) else
  if !BG e then some (e,DN s 108 e.at_) else
  (R.exprs s.inc).bind fun p=>some (nod 6 e.at_ (Aps (BS T s OJ)) [e,p.1],p.2)
def Agd(l:List Nd)(s:PS):Option (List Nd×PS):=
  if !isP T 5 (⟨#[44]⟩:ByteArray) (AZ T s) then some (l ++ [nod 31 (ZN T s).At (OT T s) []],JH T 5 (⟨#[44]⟩:ByteArray) (AZ T s)) else
  R.names (l ++ [nod 31 (ZN T s).At (OT T s) []]) (JH T 5 (⟨#[44]⟩:ByteArray) (AZ T s))
def KI(t:Tk):Int:=
  if t.Kind==2 then
    (if t.Text.toList==(⟨#[112,97,115,115]⟩:ByteArray).toList then 8 else if t.Text.toList==(⟨#[98,114,101,97,107]⟩:ByteArray).toList then 9 else if t.Text.toList==(⟨#[99,111,110,116,105,110,117,101]⟩:ByteArray).toList then 10 else 0)
  else 0
def AcF(s:PS):Option (Nd×PS):=
  if KI (ZN T s) != 0 then some (nod (KI (ZN T s)) (ZN T s).At (⟨#[]⟩:ByteArray) [],s.inc) else
  if isP T 2 (⟨#[114,101,116,117,114,110]⟩:ByteArray) s then
    if MT num T (JH T 2 (⟨#[114,101,116,117,114,110]⟩:ByteArray) s) then(R.exprs (JH T 2 (⟨#[114,101,116,117,114,110]⟩:ByteArray) s)).bind fun p=>some (nod 11 (ZN T s).At (⟨#[]⟩:ByteArray) [p.1],p.2)
    else some (nod 11 (ZN T s).At (⟨#[]⟩:ByteArray) [nod 0 (ZN T s).At (⟨#[]⟩:ByteArray) []],JH T 2 (⟨#[114,101,116,117,114,110]⟩:ByteArray) s) else
  if isP T 2 (⟨#[114,97,105,115,101]⟩:ByteArray) (JH T 2 (⟨#[114,101,116,117,114,110]⟩:ByteArray) s) then
    if MT num T (JH T 2 (⟨#[114,97,105,115,101]⟩:ByteArray) (JH T 2 (⟨#[114,101,116,117,114,110]⟩:ByteArray) s)) then(R.expr (JH T 2 (⟨#[114,97,105,115,101]⟩:ByteArray) (JH T 2 (⟨#[114,101,116,117,114,110]⟩:ByteArray) s))).bind fun p=>some (nod 12 (ZN T s).At (⟨#[]⟩:ByteArray) [p.1],p.2)
    else some (nod 12 (ZN T s).At (⟨#[]⟩:ByteArray) [nod 0 (ZN T s).At (⟨#[]⟩:ByteArray) []],JH T 2 (⟨#[114,97,105,115,101]⟩:ByteArray) (JH T 2 (⟨#[114,101,116,117,114,110]⟩:ByteArray) s)) else
  if isP T 2 (⟨#[103,108,111,98,97,108]⟩:ByteArray) (JH T 2 (⟨#[114,97,105,115,101]⟩:ByteArray) (JH T 2 (⟨#[114,101,116,117,114,110]⟩:ByteArray) s)) then
    (R.names [] (JH T 2 (⟨#[103,108,111,98,97,108]⟩:ByteArray) (JH T 2 (⟨#[114,97,105,115,101]⟩:ByteArray) (JH T 2 (⟨#[114,101,116,117,114,110]⟩:ByteArray) s)))).bind fun p=>some (nod 13 (ZN T s).At (⟨#[]⟩:ByteArray) p.1,p.2) else
  if isP T 2 (⟨#[110,111,110,108,111,99,97,108]⟩:ByteArray) (JH T 2 (⟨#[103,108,111,98,97,108]⟩:ByteArray) (JH T 2 (⟨#[114,97,105,115,101]⟩:ByteArray) (JH T 2 (⟨#[114,101,116,117,114,110]⟩:ByteArray) s))) then
    (R.names [] (JH T 2 (⟨#[110,111,110,108,111,99,97,108]⟩:ByteArray) (JH T 2 (⟨#[103,108,111,98,97,108]⟩:ByteArray) (JH T 2 (⟨#[114,97,105,115,101]⟩:ByteArray) (JH T 2 (⟨#[114,101,116,117,114,110]⟩:ByteArray) s))))).bind fun p=>some (nod 14 (ZN T s).At (⟨#[]⟩:ByteArray) p.1,p.2) else
  if isP T 2 (⟨#[100,101,108]⟩:ByteArray) (JH T 2 (⟨#[110,111,110,108,111,99,97,108]⟩:ByteArray) (JH T 2 (⟨#[103,108,111,98,97,108]⟩:ByteArray) (JH T 2 (⟨#[114,97,105,115,101]⟩:ByteArray) (JH T 2 (⟨#[114,101,116,117,114,110]⟩:ByteArray) s)))) then
    (R.postfix_ (JH T 2 (⟨#[100,101,108]⟩:ByteArray) (JH T 2 (⟨#[110,111,110,108,111,99,97,108]⟩:ByteArray) (JH T 2 (⟨#[103,108,111,98,97,108]⟩:ByteArray) (JH T 2 (⟨#[114,97,105,115,101]⟩:ByteArray) (JH T 2 (⟨#[114,101,116,117,114,110]⟩:ByteArray) s)))))).bind fun p=>
    some (nod 7 (ZN T s).At (⟨#[]⟩:ByteArray) [p.1],if !BG p.1 then DN p.2 108 p.1.at_ else p.2) else
  (R.exprs (JH T 2 (⟨#[100,101,108]⟩:ByteArray) (JH T 2 (⟨#[110,111,110,108,111,99,97,108]⟩:ByteArray) (JH T 2 (⟨#[103,108,111,98,97,108]⟩:ByteArray) (JH T 2 (⟨#[114,97,105,115,101]⟩:ByteArray) (JH T 2 (⟨#[114,101,116,117,114,110]⟩:ByteArray) s)))))).bind fun p=>
  (R.assigned p.1 p.2).bind fun q=>some (Ao3 q.1 (ZN T s).At,q.2)
def SG(l:List Nd)(s:PS):Option (List Nd×PS):=
  if !s.bad && (ZN T s).Kind != 8 then(R.stmt s).bind fun p=>R.blockL (l ++ [p.1]) p.2 else some (l,s)
def AfW(s:PS):Option (Nd×PS):=
  (R.stmt (ZZ T 7 (ZZ T 6 (GF T 5 (⟨#[58]⟩:ByteArray) s)))).bind fun p=>(R.blockL [p.1] p.2).bind fun q=>
  match q.1 with
  | []=>none
  | n :: l=>some (nod 2 n.at_ (⟨#[]⟩:ByteArray) (n :: l),ZZ T 8 q.2)
def Acm(a:Int)(s:PS):Option (Nd×PS):=
  (R.expr s).bind fun p=>(R.block p.2).bind fun q=>
  if isP T 2 (⟨#[101,108,105,102]⟩:ByteArray) q.2 then(R.choice (ZN T q.2).At (JH T 2 (⟨#[101,108,105,102]⟩:ByteArray) q.2)).bind fun u=>some (nod 15 a (⟨#[]⟩:ByteArray) [p.1,q.1,nod 2 (ZN T q.2).At (⟨#[]⟩:ByteArray) [u.1]],u.2) else
  if isP T 2 (⟨#[101,108,115,101]⟩:ByteArray) (JH T 2 (⟨#[101,108,105,102]⟩:ByteArray) q.2) then(R.block (JH T 2 (⟨#[101,108,115,101]⟩:ByteArray) (JH T 2 (⟨#[101,108,105,102]⟩:ByteArray) q.2))).bind fun u=>some (nod 15 a (⟨#[]⟩:ByteArray) [p.1,q.1,u.1],u.2) else
  some (nod 15 a (⟨#[]⟩:ByteArray) [p.1,q.1,nod 0 a (⟨#[]⟩:ByteArray) []],JH T 2 (⟨#[101,108,115,101]⟩:ByteArray) (JH T 2 (⟨#[101,108,105,102]⟩:ByteArray) q.2))
def TB(l:List Nd)(some_:Bool)(s:PS):Option (List Nd×PS):=if !isP T 5 (⟨#[44]⟩:ByteArray) s then some (l,JH T 5 (⟨#[44]⟩:ByteArray) s) else R.params l some_ (JH T 5 (⟨#[44]⟩:ByteArray) s)
def Acy(l:List Nd)(some_:Bool)(s:PS):Option (List Nd×PS):=
  if s.bad then some (l,s) else
  if isP T 5 (⟨#[42,42]⟩:ByteArray) s then some (l ++ [nod 19 (ZN T s).At (OT T (JH T 5 (⟨#[42,42]⟩:ByteArray) s)) []],JH T 5 (⟨#[44]⟩:ByteArray) (AZ T (JH T 5 (⟨#[42,42]⟩:ByteArray) s))) else
  if !CI (ZN T s) then some (l,JH T 5 (⟨#[42,42]⟩:ByteArray) s) else
  if some_ && !((RZ T s).Kind==5 && (RZ T s).Text.toList==(⟨#[61]⟩:ByteArray).toList) then some (l,DH T (JH T 5 (⟨#[42,42]⟩:ByteArray) s)) else
  if isP T 5 (⟨#[61]⟩:ByteArray) (JH T 5 (⟨#[42,42]⟩:ByteArray) s).inc then
    (R.expr (JH T 5 (⟨#[61]⟩:ByteArray) (JH T 5 (⟨#[42,42]⟩:ByteArray) s).inc)).bind fun p=>TB T R (l ++ [nod 19 (ZN T s).At (ZN T s).Text [p.1]]) true p.2
  else TB T R (l ++ [nod 19 (ZN T s).At (ZN T s).Text [nod 0 (ZN T s).At (⟨#[]⟩:ByteArray) []]]) some_ (JH T 5 (⟨#[61]⟩:ByteArray) (JH T 5 (⟨#[42,42]⟩:ByteArray) s).inc)
def KM(l:List Nd)(bare:Bool)(a:Int)(c:Nd)(name:ByteArray)(s:PS):Option (List Nd×PS):=
  (R.block s).bind fun p=>R.caught (l ++ [nod 22 a name [c,p.1]]) bare p.2
def Acl(l:List Nd)(bare:Bool)(s:PS):Option (List Nd×PS):=
  if !isP T 2 (⟨#[101,120,99,101,112,116]⟩:ByteArray) s then some (l,s) else
  if bare then some (l,DH T s) else
  if MT num T s.inc then(R.expr s.inc).bind fun p=>
    if isP T 2 (⟨#[97,115]⟩:ByteArray) p.2 then KM R l bare (ZN T s).At p.1 (OT T (JH T 2 (⟨#[97,115]⟩:ByteArray) p.2)) (AZ T (JH T 2 (⟨#[97,115]⟩:ByteArray) p.2))
    else KM R l bare (ZN T s).At p.1 (⟨#[]⟩:ByteArray) (JH T 2 (⟨#[97,115]⟩:ByteArray) p.2)
  else KM R l true (ZN T s).At (nod 0 (ZN T s).At (⟨#[]⟩:ByteArray) []) (⟨#[]⟩:ByteArray) s.inc
def Ak9(s:PS):Option (Nd×PS):=
  if isP T 2 (⟨#[105,102]⟩:ByteArray) s then R.choice (ZN T s).At (JH T 2 (⟨#[105,102]⟩:ByteArray) s) else
  if isP T 2 (⟨#[119,104,105,108,101]⟩:ByteArray) (JH T 2 (⟨#[105,102]⟩:ByteArray) s) then
    (R.expr (JH T 2 (⟨#[119,104,105,108,101]⟩:ByteArray) (JH T 2 (⟨#[105,102]⟩:ByteArray) s))).bind fun p=>(R.block p.2).bind fun q=>some (nod 16 (ZN T s).At (⟨#[]⟩:ByteArray) [p.1,q.1],q.2) else
  if isP T 2 (⟨#[102,111,114]⟩:ByteArray) (JH T 2 (⟨#[119,104,105,108,101]⟩:ByteArray) (JH T 2 (⟨#[105,102]⟩:ByteArray) s)) then
    (R.targets (JH T 2 (⟨#[102,111,114]⟩:ByteArray) (JH T 2 (⟨#[119,104,105,108,101]⟩:ByteArray) (JH T 2 (⟨#[105,102]⟩:ByteArray) s)))).bind fun p=>(R.exprs (GF T 2 (⟨#[105,110]⟩:ByteArray) p.2)).bind fun q=>(R.block q.2).bind fun u=>
    some (nod 17 (ZN T s).At (⟨#[]⟩:ByteArray) [p.1,q.1,u.1],u.2) else
  if isP T 2 (⟨#[100,101,102]⟩:ByteArray) (JH T 2 (⟨#[102,111,114]⟩:ByteArray) (JH T 2 (⟨#[119,104,105,108,101]⟩:ByteArray) (JH T 2 (⟨#[105,102]⟩:ByteArray) s))) then
    (R.params [] false (GF T 5 (⟨#[40]⟩:ByteArray) (AZ T (JH T 2 (⟨#[100,101,102]⟩:ByteArray) (JH T 2 (⟨#[102,111,114]⟩:ByteArray) (JH T 2 (⟨#[119,104,105,108,101]⟩:ByteArray) (JH T 2 (⟨#[105,102]⟩:ByteArray) s))))))).bind fun p=>
    (R.block (GF T 5 (⟨#[41]⟩:ByteArray) p.2)).bind fun q=>
    some (nod 18 (ZN T s).At (OT T (JH T 2 (⟨#[100,101,102]⟩:ByteArray) (JH T 2 (⟨#[102,111,114]⟩:ByteArray) (JH T 2 (⟨#[119,104,105,108,101]⟩:ByteArray) (JH T 2 (⟨#[105,102]⟩:ByteArray) s))))) (p.1 ++ [q.1]),q.2) else
  if isP T 2 (⟨#[99,108,97,115,115]⟩:ByteArray) (JH T 2 (⟨#[100,101,102]⟩:ByteArray) (JH T 2 (⟨#[102,111,114]⟩:ByteArray) (JH T 2 (⟨#[119,104,105,108,101]⟩:ByteArray) (JH T 2 (⟨#[105,102]⟩:ByteArray) s)))) then
    if isP T 5 (⟨#[40]⟩:ByteArray) (AZ T (JH T 2 (⟨#[99,108,97,115,115]⟩:ByteArray) (JH T 2 (⟨#[100,101,102]⟩:ByteArray) (JH T 2 (⟨#[102,111,114]⟩:ByteArray) (JH T 2 (⟨#[119,104,105,108,101]⟩:ByteArray) (JH T 2 (⟨#[105,102]⟩:ByteArray) s)))))) then
      (R.expr (JH T 5 (⟨#[40]⟩:ByteArray) (AZ T (JH T 2 (⟨#[99,108,97,115,115]⟩:ByteArray) (JH T 2 (⟨#[100,101,102]⟩:ByteArray) (JH T 2 (⟨#[102,111,114]⟩:ByteArray) (JH T 2 (⟨#[119,104,105,108,101]⟩:ByteArray) (JH T 2 (⟨#[105,102]⟩:ByteArray) s)))))))).bind fun p=>
      (R.block (GF T 5 (⟨#[41]⟩:ByteArray) p.2)).bind fun q=>
      some (nod 20 (ZN T s).At (OT T (JH T 2 (⟨#[99,108,97,115,115]⟩:ByteArray) (JH T 2 (⟨#[100,101,102]⟩:ByteArray) (JH T 2 (⟨#[102,111,114]⟩:ByteArray) (JH T 2 (⟨#[119,104,105,108,101]⟩:ByteArray) (JH T 2 (⟨#[105,102]⟩:ByteArray) s)))))) [p.1,q.1],q.2)
    else
      (R.block (JH T 5 (⟨#[40]⟩:ByteArray) (AZ T (JH T 2 (⟨#[99,108,97,115,115]⟩:ByteArray) (JH T 2 (⟨#[100,101,102]⟩:ByteArray) (JH T 2 (⟨#[102,111,114]⟩:ByteArray) (JH T 2 (⟨#[119,104,105,108,101]⟩:ByteArray) (JH T 2 (⟨#[105,102]⟩:ByteArray) s)))))))).bind fun q=>
      some (nod 20 (ZN T s).At (OT T (JH T 2 (⟨#[99,108,97,115,115]⟩:ByteArray) (JH T 2 (⟨#[100,101,102]⟩:ByteArray) (JH T 2 (⟨#[102,111,114]⟩:ByteArray) (JH T 2 (⟨#[119,104,105,108,101]⟩:ByteArray) (JH T 2 (⟨#[105,102]⟩:ByteArray) s)))))) [nod 0 (ZN T s).At (⟨#[]⟩:ByteArray) [],q.1],q.2) else
  if isP T 2 (⟨#[116,114,121]⟩:ByteArray) (JH T 2 (⟨#[99,108,97,115,115]⟩:ByteArray) (JH T 2 (⟨#[100,101,102]⟩:ByteArray) (JH T 2 (⟨#[102,111,114]⟩:ByteArray) (JH T 2 (⟨#[119,104,105,108,101]⟩:ByteArray) (JH T 2 (⟨#[105,102]⟩:ByteArray) s))))) then
    (R.block (JH T 2 (⟨#[116,114,121]⟩:ByteArray) (JH T 2 (⟨#[99,108,97,115,115]⟩:ByteArray) (JH T 2 (⟨#[100,101,102]⟩:ByteArray) (JH T 2 (⟨#[102,111,114]⟩:ByteArray) (JH T 2 (⟨#[119,104,105,108,101]⟩:ByteArray) (JH T 2 (⟨#[105,102]⟩:ByteArray) s))))))).bind fun p=>
    (R.caught [p.1] false (if !isP T 2 (⟨#[101,120,99,101,112,116]⟩:ByteArray) p.2 then DH T p.2 else p.2)).bind fun q=>some (nod 21 (ZN T s).At (⟨#[]⟩:ByteArray) q.1,q.2) else
  (R.simple (JH T 2 (⟨#[116,114,121]⟩:ByteArray) (JH T 2 (⟨#[99,108,97,115,115]⟩:ByteArray) (JH T 2 (⟨#[100,101,102]⟩:ByteArray) (JH T 2 (⟨#[102,111,114]⟩:ByteArray) (JH T 2 (⟨#[119,104,105,108,101]⟩:ByteArray) (JH T 2 (⟨#[105,102]⟩:ByteArray) s))))))).bind fun p=>some (p.1,ZZ T 6 p.2)
def Acz(l:List Nd)(s:PS):Option (List Nd×PS):=
  if !s.bad && (ZN T s).Kind != 9 then(R.stmt s).bind fun p=>R.parseL (l ++ [p.1]) p.2 else some (l,s)
def lv0:Lv:=⟨fun _=>none,fun _=>none,fun _ _=>none,fun _=>none,fun _ _=>none,fun _=>none,fun _=>none,fun _ _=>none,fun _ _ _=>none,fun _=>none,fun _=>none,fun _ _=>none,fun _=>none,fun _ _=>none,fun _ _=>none,fun _ _=>none,fun _ _=>none,fun _ _=>none,fun _ _=>none,fun _=>none,fun _ _=>none,fun _ _ _=>none,fun _=>none,fun _=>none,fun _ _=>none,fun _ _=>none,fun _ _=>none,fun _=>none,fun _=>none,fun _ _=>none,fun _ _=>none,fun _ _ _=>none,fun _ _ _=>none,fun _=>none,fun _ _=>none⟩
def lvS:Lv where
  expr:=Akj T R
  or_:=orF R
  orL:=AoX T R
  and_:=AoB R
  andL:=Aj4 T R
  not_:=AoV T R
  compare:=WC T R
  row:=Asm R
  rowL:=AkS T R
  minus:=Agc T R
  postfix_:=WN R
  postL:=Agi T R
  atom:=Aj8 num T R
  round:=Agk T R
  square:=AcJ T R
  curly:=AfZ T R
  more:=AkC num T R
  comp:=Akb T R
  compL:=AfY T R
  item:=Aku T R
  items:=Af6 num T R
  args:=Aj7 num T R
  exprs:=Af0 T R
  targets:=Aab R
  targL:=AcK T R
  names:=Agd T R
  assigned:=NI T R
  simple:=AcF num T R
  block:=AfW T R
  blockL:=SG T R
  choice:=Acm T R
  params:=Acy T R
  caught:=Acl num T R
  stmt:=Ak9 T R
  parseL:=Acz T R
end
def lv(num:ByteArray→(Bool×List Int)×Bool)(T:List Tk):Nat→Lv
  | 0=>lv0
  | f+1=>lvS num T (lv num T f)
def AmP:Nat→Nd→Option Int
  | 0,n=>some n.at_
  | m+1,n=>n.kids.findSome? (AmP m)
end Go.Proofs.YtjiagmjfnbljjaaGreatDoor
end
