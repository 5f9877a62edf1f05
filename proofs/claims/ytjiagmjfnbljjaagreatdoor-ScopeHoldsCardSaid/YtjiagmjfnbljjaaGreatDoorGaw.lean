/- Lemmas for the statement proved in the last of these texts: part 23 of 25. Conditions: none. -/
import Derived.Test.YtjiagmjfnbljjaaGreatDoorGat
import Derived.Test.YtjiagmjfnbljjaaGreatDoorGap
import Derived.Test.YtjiagmjfnbljjaaGreatDoorGad
import Derived.Laws.StructEq
import Derived.Lib.SlBytesConst
section
namespace Go.Proofs.YtjiagmjfnbljjaaGreatDoor
open Go Go.MapKept
set_option maxHeartbeats 4000000
set_option maxRecDepth 100000
set_option linter.unusedVariables false
set_option linter.unusedSimpArgs false
theorem Ats(x:XK)(w:World):(do eqGuard .neq 40 (.const x.v) (.const x.v) x.v x.v;binOp .neq 40 x.v x.v:Sem Value).run PP w = .ok (.bool false) w:=by
  have hS:PP.underlying 40=some (.struct (PP.fieldsOf 40)):=by kernel_rfl
  have hp:PP.stoodInHeld 40=false:=by kernel_rfl
  have hg:(eqGuard .neq 40 (.const x.v) (.const x.v) x.v x.v).run PP w = .ok () w:=run_eqGuard_agg w .neq _ _ _ _ _ (by kernel_rfl)
  rw[Sem.run_bind,hg]
  simp only[Result.andThen_ok]
  unfold XK.v
  rw[run_neq_struct,show(10000:Nat)=9999+1 from rfl,run_equalIn_agg w 9999 40 _ _ hS hp]
  have u3:=Tryz.underlying3
  have a3:=Tryz.isAgg3
  have z3:=Tryz.sizeOf3
  simp only[Program.fieldsOf,Tryz.underlying40,XK.cells]
  go_simp
theorem Alt.ext{w w':World}{sl:Sl}{us:List Us}(h:Alt w sl us)(e:Ext w w'):Alt w' sl us:=⟨h.1,h.2.1,h.2.2.1,fun p hp=>(h.2.2.2 p hp).ext e⟩
theorem AgX.ext{w w':World}{sl:Sl}{L:List So}(h:AgX w sl L)(e:Ext w w'):AgX w' sl L:=
  ⟨h.n,h.nil,fun p hp i s hs=>by
    obtain⟨x,h1,h2⟩:=h.at_ p hp i s hs
    exact⟨x,h1.ext e,h2.kind,h2.at_,h2.around,h2.locals,h2.cells,h2.frees,h2.uses.ext e⟩⟩
theorem Alt.get{w:World}{sl:Sl}{us:List Us}(h:Alt w sl us){k:Nat}{u:Us}(hk:us[k]? = some u):∃ p,sl.a=some p∧JD w (p.add (k * 3)) (XK.cells u).toList:=by
  cases ha:sl.a with
  | none=>rw[(h.2.1 ha).2] at hk;cases hk
  | some p=>exact⟨p,rfl,fun i v hi=>by rw[II];exact h.2.2.2 p ha _ _ (PN AeH hk i v hi)⟩
theorem AgX.get{w:World}{sl:Sl}{L:List So}(h:AgX w sl L){k:Nat}{s:So}(hk:L[k]? = some s):∃ p x,sl.a=some p∧JD w (p.add (k * 7)) (JL.cells x).toList∧Aul w s x:=by
  have hlt:=(List.getElem?_eq_some_iff.1 hk).1
  have hn:=h.n
  cases ha:sl.a with
  | none=>have:=(h.nil ha).1;omega
  | some p=>
    obtain⟨x,h1,h2⟩:=h.at_ p ha k s hk
    exact⟨p,x,rfl,h1,h2⟩
theorem AnO{w:World}{a b:Sl}{us:List Us}(ha:Alt w a us)(hb:Alt w b us)(hlen:us.length≤4294967296){K:Bool→World→Prop}(c:∀ w',Ext w w'→K true w'):AbQ a b K w:=by
  refine AiZ _ _ _ _ ?_
  unfold AgI
  have hna:=ha.1
  have hnb:=hb.1
  refine ZH (by rw[hna,hnb];simp) ?_
  refine YE (fun m (x:Int) w'=>∃ k:Nat,x=k∧m+k=us.length∧Ext w w') us.length (0:Int) rfl ⟨0,rfl,rfl,.refl w⟩ ?_
  rintro m x w1 ⟨k,rfl,hm,he⟩ again hag
  refine JE (fun hlt => ?_) (fun hge => ?_)
  · have hlt:k<us.length:=by simp at hlt;omega
    intro w2 d
    have e2:=he.trans d.fr
    have hk:us[k]? = some us[k]:=List.getElem?_eq_getElem hlt
    obtain⟨p,hp,hcp⟩:=(ha.ext e2).get hk
    obtain⟨q,hq,hcq⟩:=(hb.ext e2).get hk
    refine⟨fun w'=>JD w' (p.add (k * 3)) (us[k]).cells.toList∧JD w' (q.add (k * 3)) (us[k]).cells.toList,⟨hcp,hcq⟩,JM hp ⟨by omega,by omega,Aee (x:=us[k]) (fun w' h=>by simpa using h.1) (JM hq ⟨by omega,by omega,Aee (x:=us[k]) (fun w' h=>by simpa using h.2) ?_⟩)⟩⟩
    refine VQ (h:=JS) false (fun w' _=>Ats _ w') (ZH rfl ?_)
    rw[ZS (n:=us.length) (by omega) (by omega) (by omega)]
    exact hag (m - 1) ((k:Int)+1) w2 (by omega) ⟨k+1,by omega,by omega,e2⟩
  · exact Rt.mk (h:=JS) true (c w1 he)
def awS:ByteArray:=⟨#[97,32,61,32,98]⟩
theorem AvB:Nat.ble (VV awS).1.wt 1000=true:=by kernel_rfl
theorem Aqc:(AW (VV awS).1).2.1=0∧(AW (VV awS).1).1.map (fun s=>(s.kind,s.around,s.uses)) = [(1,-1,[⟨(⟨#[97]⟩:ByteArray),4,0⟩,⟨(⟨#[98]⟩:ByteArray),4,0⟩])]:=⟨by kernel_rfl,by kernel_rfl⟩
theorem Anr.repB{w w':World}{B:Nat}{n:Nd}{x:JA}(h:Anr w w' n x)(hB:w'.heap.size≤B):Rep w' B n x:=AA.rep (fun b hb=>Nat.lt_of_lt_of_le hb.2 hB) n x h.2
theorem Ard{B0:Nat}{w:World}(hB0:B0≤w.heap.size)(hV:VOk B0 w){K:Bool→World→Prop}(c:∀ w',Ext w w'→K true w'):HQ K w:=by
  refine Ahu _ _ ?_
  unfold Afk
  intro ad w1 n1
  obtain⟨rfl,rfl⟩:=n1
  refine YZ (h:=hSl) ⟨some ⟨w.heap.size,0,none⟩,5,5⟩ (Lib.run_convert_bytes_const w 42 5 #[.int .u8 97,.int .u8 32,.int .u8 61,.int .u8 32,.int .u8 98] 5 5 Tryz.underlying42 Tryz.underlying5) ?_
  obtain⟨w1,hw1⟩:∃ w1,w.alloc (.cells #[.int .u8 97,.int .u8 32,.int .u8 61,.int .u8 32,.int .u8 98] 5 (5,6))=w1:=⟨_,rfl⟩
  have n1:LG w (.cells #[.int .u8 97,.int .u8 32,.int .u8 61,.int .u8 32,.int .u8 98] 5 (5,6)) ⟨w.heap.size,0,none⟩ w1:=⟨rfl,hw1.symm⟩
  show OX _ _ (w.alloc (.cells #[.int .u8 97,.int .u8 32,.int .u8 61,.int .u8 32,.int .u8 98] 5 (5,6)))
  rw[hw1]
  have hS:Adp w1 ⟨some ⟨w.heap.size,0,none⟩,5,5⟩ awS:=by
    refine⟨rfl,Nat.le_refl _,nofun,fun _ p hp => ?_⟩
    simp only[Option.some.injEq] at hp
    subst hp
    refine⟨rfl,fun i hi=>Aax n1.get ?_⟩
    have hi:i<5:=hi
    match i,hi with
    | 0,_=>rfl
    | 1,_=>rfl
    | 2,_=>rfl
    | 3,_=>rfl
    | 4,_=>rfl
  have e1:=n1.fr
  refine AlO hS fun x w2 ht => ?_
  have e2:Ext w w2:=e1.trans ht.1
  intro a4 w4 n4 a5 w5 n5
  have ha4:=n4.addr
  have ha5:=n5.addr
  subst ha4 ha5
  have hs4:=n4.size
  have hg4:=n4.get
  have hg5:=n5.get
  refine XH (n5.fr.get hg4) (Nat.le_of_eq rfl) fun w6 s6 => ?_
  rw[QH (by rfl)] at s6
  refine YH (s6.fr.get hg5 (by intro h;have h:w4.heap.size=w2.heap.size:=h;omega)) (Nat.le_of_eq rfl) fun w7 s7 => ?_
  have s7f:=s7.fr
  have e27:Ext w2 w7:=by
    have f1:Fr (fun i=>i=w2.heap.size∨i=w4.heap.size) w2 w7:=(Ext.fr (n4.fr.trans n5.fr)).trans ((s6.fr.mono fun i _ h=>.inl h).trans (s7f.mono fun i _ h=>.inr h))
    exact f1.ext_of_new fun i hi=>by rcases hi with rfl | rfl<;>omega
  have hc4:JD w7 ⟨w2.heap.size,0,none⟩ x.cells.toList:=.all (s7f.get (s6.get (ZC (n5.fr.get hg4))) (by intro h;have h:w2.heap.size=w4.heap.size:=h;omega))
  refine QV hc4 ?_
  have e7:Ext w w7:=e2.trans e27
  have hwt:(VV awS).1.wt≤1000:=Nat.le_of_ble_eq_true AvB
  refine AlN (Nat.le_trans hB0 e7.size) (hV.ext e7) (by omega) ((ht.repB e27.size).ext e27) fun sl w8 e8 hsl => ?_
  obtain⟨hq1,hq2⟩:=Aqc
  rw[hq1]
  intro a9 w9 n9
  have ha9:=n9.addr
  subst ha9
  refine YH n9.get (Nat.le_of_eq rfl) fun w10 s10 => ?_
  rw[QH (by rfl)] at s10
  have e10:Ext w8 w10:=by
    have f1:Fr (fun i=>i=w8.heap.size) w8 w10:=(Ext.fr n9.fr).trans s10.fr
    exact f1.ext_of_new fun i hi=>Nat.le_of_eq hi.symm
  have hc10:JD w10 ⟨w8.heap.size,0,none⟩ (QI.cells ⟨0,(AW (VV awS).1).2.2⟩).toList:=.all (s10.get (ZC n9.get))
  refine JO (x:=0) (by simpa [JP] using hc10 0 _ rfl) (VF rfl ?_)
  obtain⟨L,hL⟩:∃ L,(AW (VV awS).1).1=L:=⟨_,rfl⟩
  rw[hL] at hsl hq2
  obtain⟨s,rfl,hs⟩:=List.map_eq_singleton_iff.1 hq2
  · simp only[Prod.mk.injEq] at hs
    obtain⟨hk,har,hus⟩:=hs
    dsimp only
    replace hsl:=hsl.ext e10
    obtain⟨p,y,hp,hcy,hy⟩:=hsl.get (k:=0) rfl
    have hn:sl.n=1:=hsl.n
    simp only[Nat.zero_mul,JP] at hcy
    refine VF (by rw[hn];rfl) (JM hp ⟨by omega,by omega,JO (x:=y.Kind) (by simpa [JP] using hcy 0 _ rfl) (VF (by rw[hy.kind,hk];rfl) (JM hp ⟨by omega,by omega,JO (x:=y.Around) (hcy 2 _ rfl) (VF (by rw[hy.around,har];rfl) (JM hp ⟨by omega,by omega,DE (x:=y.Uses) (hcy 3 _ rfl) ?_⟩))⟩))⟩)
    intro a11 w11 n11
    have hu:=hy.uses.ext n11.fr
    rw[hus] at hu
    refine AnO hu (us:=[⟨(⟨#[97]⟩:ByteArray),4,0⟩,⟨(⟨#[98]⟩:ByteArray),4,0⟩]) ⟨rfl,(fun h=>by cases h),Nat.le_refl _,fun q hq => ?_⟩ (by decide) fun w12 e12=>Rt.mk (h:=JS) true (c w12 (((e7.trans e8).trans e10).trans (n11.fr.trans e12)))
    simp only[Option.some.injEq] at hq
    subst hq
    exact n11.cells
end Go.Proofs.YtjiagmjfnbljjaaGreatDoor
end
