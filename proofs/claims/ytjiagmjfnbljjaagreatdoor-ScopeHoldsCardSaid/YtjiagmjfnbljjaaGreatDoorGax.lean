/- Lemmas for the statement proved in the last of these texts: part 24 of 25. Conditions: none. -/
import Derived.Test.YtjiagmjfnbljjaaGreatDoorGaw
import Derived.Test.YtjiagmjfnbljjaaGreatDoorGav
import Derived.Deep.OwnRows
section
namespace Go.Proofs.YtjiagmjfnbljjaaGreatDoor
open Go Go.MapKept
set_option maxHeartbeats 4000000
set_option maxRecDepth 100000
set_option linter.unusedVariables false
set_option linter.unusedSimpArgs false
theorem Apb{a b:ByteArray}:(a.toList==b.toList)=true↔a=b:=by
  rw[beq_iff_eq,IX,IX]
  exact⟨Akd,fun h=>by rw[h]⟩
theorem Apx{w:World}{x:JL}{us:List Us}(h:Alt w x.Uses us)(hl:us.length≤4000000000)(name:ByteArray)(what:Int){K:Bool→World→Prop}
    (c:∀ b w',Ext w w'→(b=true↔∃ u∈us,u.Name=name∧u.What=what)→K b w'):SA x name what K w:=by
  refine AiY _ _ _ _ _ ?_
  unfold AgH
  intro s1 w1 n1
  have ha:=n1.addr
  subst ha
  have YV:JD w1 ⟨w.heap.size,0,none⟩ x.cells.toList:=.all n1.get
  refine YE (fun m (x:Int) w'=>∃ k:Nat,x=k∧m+k=us.length∧Ext w1 w'∧∀ k',k'<k→∀ u,us[k']? = some u→¬ (u.Name=name∧u.What=what)) us.length (0:Int) rfl ⟨0,rfl,rfl,.refl _,nofun⟩ ?_
  rintro m x2 w2 ⟨k,rfl,hm,he,hno⟩ again hag
  have hc2:=YV.ext he
  have hu:=(h.ext n1.fr).ext he
  have hn:=hu.1
  refine DE (x:=x.Uses) (hc2 3 _ rfl) (JE (fun hlt => ?_) (fun hge => ?_))
  · have hlt:k<us.length:=by simp at hlt;omega
    have hk:us[k]? = some us[k]:=List.getElem?_eq_getElem hlt
    obtain⟨p,hp,hcp⟩:=hu.get hk
    have nx:¬ ((us[k]).Name=name∧(us[k]).What=what)→again [.int .i64 (IntKind.i64.wrap ((k:Int)+1))] w2:=fun hne=>by
      rw[ZS (n:=us.length) (by omega) (by omega) (by omega)]
      refine hag (m - 1) ((k:Int)+1) w2 (by omega) ⟨k+1,by omega,by omega,he,fun k' hk' u hu' => ?_⟩
      rcases Nat.lt_or_ge k' k with h1 | h1
      · exact hno k' h1 u hu'
      · have:k'=k:=by omega
        subst this
        rw[hk] at hu'
        cases hu'
        exact hne
    refine DE (x:=x.Uses) (hc2 3 _ rfl) (JM hp ⟨by omega,by omega,YS (x:=(us[k]).Name) (by simpa [JP] using hcp 0 _ rfl) (JE (fun h1 => ?_) (fun h1 => ?_))⟩)
    · refine DE (x:=x.Uses) (hc2 3 _ rfl) (JM hp ⟨by omega,by omega,JO (x:=(us[k]).What) (by simpa using hcp 1 _ rfl) (JE (fun h2 => ?_) (fun h2 => ?_))⟩)
      · refine RtB _ (c true w2 (n1.fr.trans he) ⟨fun _=>⟨us[k],List.getElem_mem hlt,Apb.1 h1,by simpa using h2⟩,fun _=>rfl⟩)
      · exact nx fun hh=>by have:=hh.2;simp at h2;exact h2 this
    · exact nx fun hh=>by rw[Apb.2 hh.1] at h1;cases h1
  · refine RtB _ (c false w2 (n1.fr.trans he) ⟨fun h=>by(cases h),fun⟨u,hu1,hu2⟩ => ?_⟩)
    obtain⟨k',hk'⟩:=List.mem_iff_getElem?.1 hu1
    have:=(List.getElem?_eq_some_iff.1 hk').1
    exact absurd hu2 (hno k' (by simp at hge;omega) u hk')
def AfF(c:Int→Prop)(us:List Us)(k j:Nat):Prop:=∃ (k':Nat) (v:Us),k'<k∧us[k']? = some v∧c v.What∧v.Slot=(j:Int)
theorem AkB{c:Int→Prop}{us:List Us}{k:Nat}{u:Us}(h:us[k]? = some u)(j:Nat):AfF c us (k+1) j↔AfF c us k j∨(c u.What∧u.Slot=(j:Int)):=by
  constructor
  · rintro⟨k',v,h1,h2,h3,h4⟩
    rcases Nat.lt_or_ge k' k with hl | hl
    · exact .inl ⟨k',v,hl,h2,h3,h4⟩
    · have:k'=k:=by omega
      subst this
      rw[h] at h2;cases h2
      exact .inr ⟨h3,h4⟩
  · rintro(⟨k',v,h1,h2,h3,h4⟩ | ⟨h3,h4⟩)
    · exact⟨k',v,by omega,h2,h3,h4⟩
    · exact⟨k,u,by omega,h,h3,h4⟩
theorem Acw{c:Int→Prop}{us:List Us}{k:Nat}{u:Us}(h:us[k]? = some u)(hc:¬ c u.What)(j:Nat):AfF c us k j↔AfF c us (k+1) j:=by
  rw[AkB h]
  exact⟨.inl,fun h=>h.elim id fun h=>absurd h.1 hc⟩
theorem Amb{c:Int→Prop}{us:List Us}{k m:Nat}{u:Us}(h:us[k]? = some u)(hc:c u.What)(hm:u.Slot=(m:Int))(j:Nat):(AfF c us k j∨j=m)↔AfF c us (k+1) j:=by
  rw[AkB h]
  constructor
  · rintro(h | h)
    · exact .inl h
    · exact .inr ⟨hc,by omega⟩
  · rintro(h | ⟨_,h⟩)
    · exact .inl h
    · exact .inr (by omega)
def CD(w:World)(b n:Nat)(P:Nat→Prop):Prop:=∃ cs,w.heap[b]? = some (.cells cs 4 (0,0))∧cs.size=n∧∀ j,j<n→∃ v,cs[j]? = some (.bool v)∧(v=true↔P j)
theorem CD.fr{D:Nat→Prop}{w w':World}{b n:Nat}{P:Nat→Prop}(h:CD w b n P)(e:Fr D w w')(hd:¬ D b):CD w' b n P:=by
  obtain⟨cs,h1,h2⟩:=h
  exact⟨cs,e.get h1 hd,h2⟩
theorem CD.imp{w:World}{b n:Nat}{P Q:Nat→Prop}(h:CD w b n P)(hq:∀ j,P j↔Q j):CD w b n Q:=by
  obtain⟨cs,h1,h2,h3⟩:=h
  exact⟨cs,h1,h2,fun j hj=>by obtain⟨v,h4,h5⟩:=h3 j hj;exact⟨v,h4,h5.trans (hq j)⟩⟩
theorem CD.ld{w:World}{b n:Nat}{P:Nat→Prop}(h:CD w b n P){j:Nat}(hj:j<n):∃ v,w.cell? ⟨b,j,none⟩=some (.bool v)∧(v=true↔P j):=by
  obtain⟨cs,h1,h2,h3⟩:=h
  obtain⟨v,h4,h5⟩:=h3 j hj
  exact⟨v,Aax h1 h4,h5⟩
theorem CD.st{w:World}{b n:Nat}{P:Nat→Prop}(h:CD w b n P){j:Nat}(hj:j<n){K:World→Prop}(k:∀ w',Fr (fun i=>i=b) w w'→CD w' b n (fun i=>P i∨i=j)→K w'):HN ⟨b,j,none⟩ true K w:=by
  obtain⟨cs,h1,h2,h3⟩:=h
  refine KJ h1 (by omega) fun w' s=>k w' s.fr ⟨_,s.get (ZC h1),by rw[NZ];exact h2,fun i hi => ?_⟩
  have:(ZI cs j [Value.bool true])[i]? = if i=j then some (.bool true) else cs[i]?:=by
    rw[BK _ _ _ _ (by simp only[List.length_cons,List.length_nil];omega)]
    by_cases hij:i=j
    · subst hij;simp
    · rw[if_neg hij,if_neg];simp only[List.length_cons,List.length_nil];omega
  rw[this]
  by_cases hij:i=j
  · subst hij
    exact⟨true,by simp,by simp⟩
  · obtain⟨v,h4,h5⟩:=h3 i hi
    exact⟨v,by rw[if_neg hij];exact h4,by rw[h5];simp[hij]⟩
theorem AnV{w:World}{n:Nat}(hn:n≤8000000000):(Instr.makeSlice 46 (.int .i64 (n:Int)) (.int .i64 (n:Int))).run PP w = .ok (hSl.val ⟨some ⟨w.heap.size,0,none⟩,n,n⟩) (w.alloc (.cells (madeCells #[.bool false] n) 4)):=
  run_make_row' 46 4 (.bool false) 1 Tryz.underlying46 (by kernel_rfl) rfl .i64 .i64 n (by omega) (by omega) w
theorem CD.mk(w:World)(n:Nat)(us:List Us)(c:Int→Prop):CD (w.alloc (.cells (madeCells #[.bool false] n) 4)) w.heap.size n (AfF c us 0):=
  ⟨_,(show LG w _ ⟨w.heap.size,0,none⟩ _ from⟨rfl,rfl⟩).get,size_madeCells _ _,fun j hj=>⟨false,by simp[madeCells,hj,Nat.mod_one],by simp[AfF]⟩⟩
structure Sit(wS:World)(L:List So)(sl:Sl)(i:Nat)(s:So)(x:JL)(a:Addr):Prop where
  sos:AgX wS sl L
  get:L[i]? = some s
  all:∀ (i:Nat) (s:So),L[i]? = some s→Aoy L i s
  at_:Aul wS s x
  cells:JD wS a x.cells.toList
structure Ul(wS:World)(us:List Us)(bC bL nC nL k:Nat)(w:World):Prop where
  ext:Ext wS w
  mc:CD w bC nC (AfF (fun c=>c=2∨c=3) us k)
  ml:CD w bL nL (AfF (fun c=>c=1) us k)
  hC:wS.heap.size≤bC
  hL:bC<bL
theorem Ul.go{wS:World}{us:List Us}{bC bL nC nL k:Nat}{w w':World}(h:Ul wS us bC bL nC nL k w)(e:Ext w w'):Ul wS us bC bL nC nL k w':=
  ⟨h.ext.trans e,h.mc.fr e nofun,h.ml.fr e nofun,h.hC,h.hL⟩
theorem AoM{R:Value→World→Prop}{again:List Value→World→Prop}{i k:Int}{a:Addr}{u:Us}{w:World}(hc:JD w a u.cells.toList)(hi:i=0→u.What=4)
    (ha:again [.int .i64 (IntKind.i64.wrap (k+1))] w):YN R again i k a w:=by
  unfold YN
  refine JE (fun h=>JO (x:=u.What) (hc 1 _ rfl) (ZH ?_ ha)) (fun _=>ha)
  rw[hi (by simpa using h)];rfl
section
variable{wS:World}{L:List So}{sl:Sl}{i:Nat}{s:So}{x:JL}{a18:Addr}(H:Sit wS L sl i s x a18)
  {bC bL nC nL k:Nat} {w:World} (hU:Ul wS s.uses bC bL nC nL k w) (hnC:(nC:Int)=s.cells+s.frees) (hnL:(nL:Int)=s.locals)
  {u:Us} (hu:s.uses[k]? = some u) {a36:Addr} (hc:JD w a36 u.cells.toList) (hbC:a36.block≠bC) (hbL:a36.block≠bL)
  {R:Value→World→Prop} {again:List Value→World→Prop} (hag:∀ w',Ul wS s.uses bC bL nC nL (k+1) w'→again [.int .i64 (IntKind.i64.wrap ((k:Int)+1))] w')
include H hU hu hc hag
theorem ArH(h45:u.What=4∨u.What=5):EQ R again i a18 k a36 true w:=by
  unfold EQ
  have g:=H.all i s H.get
  have hm:=List.mem_of_getElem? hu
  obtain⟨g1,g2⟩:=g.glob u hm h45
  have hU':Ul wS s.uses bC bL nC nL (k+1) w:=⟨hU.ext,hU.mc.imp (Acw hu (by omega)),hU.ml.imp (Acw hu (by omega)),hU.hC,hU.hL⟩
  have fin:YN R again i k a36 w:=AoM hc (fun h0=>g.modu (by omega) u hm) (hag w hU')
  refine VF rfl (JO (x:=u.Slot) (hc 2 _ rfl) (ZH (by rw[g1];rfl) (JO (x:=u.What) (hc 1 _ rfl) (JE (fun h5 => ?_) fun _=>fin))))
  refine JO (x:=x.Kind) (by simpa [JP] using (H.cells.ext hU.ext) 0 _ rfl) (ZH ?_ fin)
  rw[H.at_.kind,g2 (by simpa using h5)];rfl
include hnC hbC
theorem AuD(h23:u.What=2∨u.What=3)(hs:0≤u.Slot∧u.Slot<nC):OE R again sl i a18 ⟨some ⟨bC,0,none⟩,nC,nC⟩ k a36 w:=by
  unfold OE
  have g:=H.all i s H.get
  have hm:=List.mem_of_getElem? hu
  refine JO (x:=u.Slot) (hc 2 _ rfl) (JM rfl ⟨by omega,by simpa using hs.2,?_⟩)
  rw[GQ,Nat.zero_add,Nat.mul_one]
  refine hU.mc.st (by omega) fun w2 f2 m2 w3 d3 => ?_
  have e2:Ext wS w3:=((Fr.trans (Ext.fr hU.ext) f2).ext_of_new fun j hj=>by subst hj;exact hU.hC).trans d3.fr
  have hL:=hU.hL
  have hU3:Ul wS s.uses bC bL nC nL (k+1) w3:=
    ⟨e2,(m2.imp (Amb hu h23 (by omega))).fr d3.fr nofun,((hU.ml.fr f2 (by omega)).imp (Acw hu (by omega))).fr d3.fr nofun,hU.hC,hU.hL⟩
  have hc3:JD w3 a36 u.cells.toList:=(hc.fr f2 hbC).ext d3.fr
  have fin:∀ w',Ext w3 w'→YN R again i k a36 w':=fun w' e=>AoM (hc3.ext e) (fun h0=>g.modu (by omega) u hm) (hag w' (hU3.go e))
  have hx3:=H.cells.ext e2
  refine⟨fun w'=>Ext wS w'∧JD w' a36 u.cells.toList,⟨e2,hc3⟩,JV (x:=u.What) (fun w' h=>h.2 1 _ rfl) (JE (fun h3 => ?_) fun _=>⟨fun _=>True,trivial,fin w3 (.refl _)⟩)⟩
  have h3:u.What=3:=by simpa using h3
  obtain⟨g1,a,ha,v,hv,hv1,hv2⟩:=g.free u hm h3
  obtain⟨p,y,hp,hcp,hy⟩:=H.sos.get ha
  have halt:=(List.getElem?_eq_some_iff.1 ha).1
  have hn:=H.sos.n
  have hyl:=(H.all _ a ha).len
  have lx:∀ w',Ext wS w'→w'.cell? (a18.add 2)=some (.int .i64 s.around):=fun w' h=>by
    have:=H.cells.ext h 2 _ rfl
    rw[← H.at_.around];exact this
  have ly:∀ w',Ext wS w'→JD w' (p.add (s.around.toNat * 7)) y.cells.toList:=fun w' h=>hcp.ext h
  refine JV (x:=s.around) (fun w' h=>lx w' h.1) (ZH (by simp;omega) (JV (x:=s.around) (fun w' h=>lx w' h.1) (JM hp ⟨g1,by omega,?_⟩)))
  refine AbA (x:=y) (fun w' h=>ly w' h.1) (YO (x:=u.Name) (fun w' h=>by simpa [JP] using h.2 0 _ rfl) ?_)
  refine Apx (hy.uses.ext e2) hyl _ _ fun b w4 e4 hb => ?_
  refine⟨fun w'=>Ext wS w'∧JD w' a36 u.cells.toList,⟨e2.trans e4,hc3.ext e4⟩,JE (fun hb0 => ?_) fun _=>fin w4 e4⟩
  refine JV (x:=s.around) (fun w' h=>lx w' h.1) (JM hp ⟨g1,by omega,?_⟩)
  refine AbA (x:=y) (fun w' h=>ly w' h.1) (YO (x:=u.Name) (fun w' h=>by simpa [JP] using h.2 0 _ rfl) ?_)
  refine Apx (hy.uses.ext (e2.trans e4)) hyl _ _ fun b2 w5 e5 hb2=>ZH ?_ (fin w5 (e4.trans e5))
  have hb0:¬ b=true:=by simpa using hb0
  have:b2=true:=hb2.2 ⟨v,hv,hv1,hv2.resolve_left fun h=>hb0 (hb.2 ⟨v,hv,hv1,h⟩)⟩
  rw[this];rfl
theorem ArG(h1:u.What≠1){q:Bool}(hq:q=if u.What==2 then true else u.What==3):EP R again sl i a18 ⟨some ⟨bC,0,none⟩,nC,nC⟩ k a36 u.What q w:=by
  unfold EP
  have g:=H.all i s H.get
  have hm:=List.mem_of_getElem? hu
  have h5:=g.five u hm
  refine JE (fun hb => ?_) fun hb => ?_
  · have h23:u.What=2∨u.What=3:=by
      rw[hb] at hq
      split at hq
      · rename_i h;exact .inl (by simpa using h)
      · exact .inr (by simpa using hq.symm)
    obtain⟨c1,c2,c3,c4⟩:=g.cel k u hu h23
    refine JO (x:=u.Slot) (hc 2 _ rfl) (ZH (by simp;omega) (JO (x:=u.Slot) (hc 2 _ rfl) (ZH (by simp;omega) (JO (x:=u.Slot) (hc 2 _ rfl) (JM rfl ⟨c1,by simp;omega,?_⟩)))))
    rw[GQ,Nat.zero_add,Nat.mul_one]
    obtain⟨v,hv1,hv2⟩:=hU.mc.ld (j:=u.Slot.toNat) (by omega)
    refine HT (x:=v) hv1 (ZH ?_ ?_)
    · cases v with
      | false=>rfl
      | true=>
        obtain⟨k',v',m1,m2,m3,m4⟩:=hv2.1 rfl
        exact absurd (by omega) (c4 k' v' m1 m2 m3)
    · refine JO (x:=u.Slot) (hc 2 _ rfl) (JO (x:=x.Cells) ((H.cells.ext hU.ext) 5 _ rfl) (JO (x:=u.What) (hc 1 _ rfl) (ZH ?_ (AuD H hU hnC hu hc hbC hag h23 ⟨c1,by omega⟩))))
      rw[H.at_.cells]
      by_cases hh:u.What=2
      · have:=c3.2 hh
        rw[hh];simp[this]
      · have:¬ u.Slot<s.cells:=fun h=>hh (c3.1 h)
        simp[hh,this]
  · have h45:u.What=4∨u.What=5:=by
      rw[hb] at hq
      split at hq
      · cases hq
      · rename_i h
        have h2:¬ u.What=2:=by simpa using h
        have h3:¬ u.What=3:=by simpa using hq.symm
        omega
    refine JE (fun h4 => ?_) fun h4 => ?_
    · rw[h4];exact ArH H hU hu hc hag h45
    · have:(u.What==5)=true:=by simp at h4;simp;omega
      rw[this];exact ArH H hU hu hc hag h45
include hnL hbL
theorem AuC:UZ R again sl i a18 ⟨some ⟨bC,0,none⟩,nC,nC⟩ ⟨some ⟨bL,0,none⟩,nL,nL⟩ k a36 w:=by
  unfold UZ
  have g:=H.all i s H.get
  have hm:=List.mem_of_getElem? hu
  refine JO (x:=u.What) (hc 1 _ rfl) (JE (fun h1 => ?_) fun h1 => ?_)
  · have h1:u.What=1:=by simpa using h1
    obtain⟨c1,c2,c3⟩:=g.loc k u hu h1
    have hxl:=H.at_.locals
    refine JO (x:=u.Slot) (hc 2 _ rfl) (ZH (by simp;omega) (JO (x:=u.Slot) (hc 2 _ rfl) (JO (x:=x.Locals) ((H.cells.ext hU.ext) 4 _ rfl) (ZH (by simp;omega) (JO (x:=u.Slot) (hc 2 _ rfl) (JM rfl ⟨c1,by simp;omega,?_⟩))))))
    rw[GQ,Nat.zero_add,Nat.mul_one]
    obtain⟨v,hv1,hv2⟩:=hU.ml.ld (j:=u.Slot.toNat) (by omega)
    refine HT (x:=v) hv1 (ZH ?_ ?_)
    · cases v with
      | false=>rfl
      | true=>
        obtain⟨k',v',m1,m2,m3,m4⟩:=hv2.1 rfl
        exact absurd (by omega) (c3 k' v' m1 m2 m3)
    · refine JO (x:=u.Slot) (hc 2 _ rfl) (JM rfl ⟨c1,by simp;omega,?_⟩)
      rw[GQ,Nat.zero_add,Nat.mul_one]
      have hL:=hU.hL
      have hC:=hU.hC
      refine hU.ml.st (by omega) fun w2 f2 m2 => ?_
      have e2:Ext wS w2:=(Fr.trans (Ext.fr hU.ext) f2).ext_of_new fun j hj=>by subst hj;omega
      refine AoM (hc.fr f2 hbL) (fun h0=>g.modu (by omega) u hm) (hag w2 ⟨e2,(hU.mc.fr f2 (by omega)).imp (Acw hu (by omega)),m2.imp (Amb hu h1 (by omega)),hU.hC,hU.hL⟩)
  · have h1:u.What≠1:=by simpa using h1
    refine JE (fun h2 => ?_) fun h2 => ?_
    · exact ArG H hU hnC hu hc hbC hag h1 (by rw[h2];rfl)
    · exact ArG H hU hnC hu hc hbC hag h1 (by rw[if_neg (by simp[h2])])
end
theorem AuB{wS:World}{L:List So}{sl:Sl}{i:Nat}{s:So}{x:JL}{a18:Addr}(H:Sit wS L sl i s x a18)
    {R:Value→World→Prop} {again:List Value→World→Prop} (hag:∀ w',Ext wS w'→again [.int .i64 (IntKind.i64.wrap ((i:Int)+1))] w'):OD R again sl i a18 wS:=by
  unfold OD
  have g:=H.all i s H.get
  have hxc:=H.at_.cells
  have hxf:=H.at_.frees
  have hxl:=H.at_.locals
  obtain⟨nC,hnC⟩:∃ nC:Nat,(nC:Int)=s.cells+s.frees:=⟨(s.cells+s.frees).toNat,by have:=g.cel0;omega⟩
  obtain⟨nL,hnL⟩:∃ nL:Nat,(nL:Int)=s.locals:=⟨s.locals.toNat,by have:=g.loc0;omega⟩
  have g1:=g.cel0
  have g2:=g.loc0
  refine JO (x:=x.Cells) (H.cells 5 _ rfl) (JO (x:=x.Frees) (H.cells 6 _ rfl) ?_)
  have e1:IntKind.i64.wrap (x.Cells+x.Frees)=(nC:Int):=by rw[JY (by omega) (by omega)];omega
  rw[e1]
  refine YZ (h:=hSl) _ (AnV (by omega)) ?_
  obtain⟨w1,hw1⟩:∃ w1,wS.alloc (.cells (madeCells #[.bool false] nC) 4)=w1:=⟨_,rfl⟩
  have n1:LG wS (.cells (madeCells #[.bool false] nC) 4) ⟨wS.heap.size,0,none⟩ w1:=⟨rfl,hw1.symm⟩
  have mc:=CD.mk wS nC s.uses (fun c=>c=2∨c=3)
  rw[hw1] at mc ⊢
  refine JO (x:=x.Locals) ((H.cells.ext n1.fr) 4 _ rfl) ?_
  rw[show x.Locals=(nL:Int) by omega]
  refine YZ (h:=hSl) _ (AnV (by omega)) ?_
  obtain⟨w2,hw2⟩:∃ w2,w1.alloc (.cells (madeCells #[.bool false] nL) 4)=w2:=⟨_,rfl⟩
  have n2:LG w1 (.cells (madeCells #[.bool false] nL) 4) ⟨w1.heap.size,0,none⟩ w2:=⟨rfl,hw2.symm⟩
  have ml:=CD.mk w1 nL s.uses (fun c=>c=1)
  rw[hw2] at ml ⊢
  have hsz1:=n1.size
  have hU0:Ul wS s.uses wS.heap.size w1.heap.size nC nL 0 w2:=⟨n1.fr.trans n2.fr,mc.fr n2.fr nofun,ml,Nat.le_refl _,by omega⟩
  refine YE (fun m (y:Int) w'=>∃ k:Nat,y=k∧m+k=s.uses.length∧Ul wS s.uses wS.heap.size w1.heap.size nC nL k w') s.uses.length (0:Int) rfl ⟨0,rfl,rfl,hU0⟩ ?_
  rintro m y w3 ⟨k,rfl,hm,hU⟩ again2 hag2
  have hus:=H.at_.uses.ext hU.ext
  have hun:=hus.1
  have hlen:=g.len
  have lu:∀ w',Ext wS w'→w'.cell? (a18.add 3)=some x.Uses.v:=fun w' h=>H.cells.ext h 3 _ rfl
  refine DE (x:=x.Uses) (lu w3 hU.ext) (JE (fun hlt => ?_) (fun hge => ?_))
  · have hlt:k<s.uses.length:=by simp at hlt;omega
    have hk:s.uses[k]? = some s.uses[k]:=List.getElem?_eq_getElem hlt
    obtain⟨u,hu⟩:∃ u,s.uses[k] = u:=⟨_,rfl⟩
    rw[hu] at hk
    obtain⟨p,hp,hcp⟩:=H.at_.uses.get hk
    refine DE (x:=x.Uses) (lu w3 hU.ext) (JM hp ⟨by omega,by omega,Alw (x:=u) (by simpa using hcp.ext hU.ext) ?_⟩)
    intro a36 w4 n4
    have ha:=n4.addr
    subst ha
    refine AlG n4.get (Nat.le_of_eq rfl) fun w5 s5 w6 d6 => ?_
    rw[QH (by rfl)] at s5
    have e5:Ext w3 w6:=((Fr.trans (Ext.fr n4.fr) s5.fr).ext_of_new fun j hj=>by omega).trans d6.fr
    have hc:JD w6 ⟨w3.heap.size,0,none⟩ u.cells.toList:=(JD.all (s5.get (ZC n4.get))).ext d6.fr
    have hU6:=hU.go e5
    have hL3:w1.heap.size<w3.heap.size:=by
      obtain⟨_,h,_⟩:=hU.ml
      exact ZC h
    have fin:UZ R again2 sl i a18 ⟨some ⟨wS.heap.size,0,none⟩,nC,nC⟩ ⟨some ⟨w1.heap.size,0,none⟩,nL,nL⟩ k ⟨w3.heap.size,0,none⟩ w6:=by
      refine AuC H hU6 hnC hnL hk hc (by intro h;have h:w3.heap.size=wS.heap.size:=h;omega) (by intro h;have h:w3.heap.size=w1.heap.size:=h;omega) fun w7 hU7 => ?_
      rw[ZS (n:=s.uses.length) (by omega) (by omega) (by omega)]
      exact hag2 (m - 1) ((k:Int)+1) w7 (by omega) ⟨k+1,by omega,by omega,hU7⟩
    refine⟨fun w'=>Ext wS w'∧JD w' ⟨w3.heap.size,0,none⟩ u.cells.toList,⟨hU6.ext,hc⟩,JE (fun h0 => ?_) fun _=>fin⟩
    obtain⟨j,rfl⟩:∃ j,k=j+1:=⟨k - 1,by simp at h0;omega⟩
    have hj:s.uses[j]? = some s.uses[j]:=List.getElem?_eq_getElem (by omega)
    obtain⟨v,hv⟩:∃ v,s.uses[j] = v:=⟨_,rfl⟩
    rw[hv] at hj
    have hrise:=g.rise j v u hj hk
    obtain⟨p',hp',hcv⟩:=H.at_.uses.get hj
    rw[hp] at hp';cases hp'
    have ew:IntKind.i64.wrap (((j+1:Nat):Int) - 1)=(j:Int):=AbO (by omega)
    rw[ew]
    have l0:∀ w':World,Ext wS w'∧JD w' ⟨w3.heap.size,0,none⟩ u.cells.toList→w'.cell? ⟨w3.heap.size,0,none⟩=some (.string u.Name):=fun w' h=>by simpa [JP] using h.2 0 _ rfl
    refine YO (x:=u.Name) l0 (PY (x:=x.Uses) (fun w' h=>lu w' h.1) (JM hp ⟨by omega,by omega,YO (x:=v.Name) (fun w' h=>by simpa [JP] using (hcv.ext h.1) 0 _ rfl) ?_⟩))
    refine ZH ?_ ?_
    · rw[bytesLess_eq,IX,IX,decide_eq_false_iff_not]
      intro hlt'
      rcases hrise with h | ⟨h,_⟩
      · exact absurd (Std.lt_trans h hlt') Std.lt_irrefl
      · rw[h] at hlt';exact Std.lt_irrefl hlt'
    refine YO (x:=u.Name) l0 (PY (x:=x.Uses) (fun w' h=>lu w' h.1) (JM hp ⟨by omega,by omega,YO (x:=v.Name) (fun w' h=>by simpa [JP] using (hcv.ext h.1) 0 _ rfl) ?_⟩))
    refine JE (fun he => ?_) fun _=>fin
    have he:=Apb.1 he
    refine JV (x:=u.What) (fun w' h=>h.2 1 _ rfl) (PY (x:=x.Uses) (fun w' h=>lu w' h.1) (JM hp ⟨by omega,by omega,JV (x:=v.What) (fun w' h=>by simpa using (hcv.ext h.1) 1 _ rfl) (ZH ?_ fin)⟩))
    rcases hrise with h | ⟨_,h⟩
    · rw[he] at h;exact absurd h Std.lt_irrefl
    · simp;omega
  · have hk:k=s.uses.length:=by simp at hge;omega
    subst hk
    refine YE (fun m (y:Int) w'=>∃ k:Nat,y=k∧m+k=nC∧Ext w3 w') nC (0:Int) rfl ⟨0,rfl,rfl,.refl _⟩ ?_
    rintro m2 y w4 ⟨k,rfl,hm2,e4⟩ again3 hag3
    refine JE (fun hlt => ?_) (fun hge=>hag w4 (hU.ext.trans e4))
    have hlt:k<nC:=by simp at hlt;omega
    refine JM rfl ⟨by omega,by simp;omega,?_⟩
    rw[GQ,Nat.zero_add,Nat.mul_one]
    obtain⟨v,hv1,hv2⟩:=(hU.go e4).mc.ld (j:=k) hlt
    obtain⟨k',u,f1,f2,f3⟩:=g.full k (by omega) (by omega)
    have:v=true:=hv2.2 ⟨k',u,(List.getElem?_eq_some_iff.1 f1).1,f1,f2,f3⟩
    subst this
    refine HT (x:=true) hv1 (ZH rfl ?_)
    rw[ZS (n:=nC) (by omega) (by omega) (by omega)]
    exact hag3 (m2 - 1) ((k:Int)+1) w4 (by omega) ⟨k+1,by omega,by omega,e4⟩
theorem Als{B0:Nat}{w:World}(hB0:B0≤w.heap.size)(hV:VOk B0 w){src:Sl}{S:ByteArray}(hS:Adp w src S){K:Bool→World→Prop}(c:∀ w',Ext w w'→K true w'):FY src K w:=by
  refine Ac4 _ _ _ ?_
  unfold TF
  have aw:∀ w',Ext w w'→HQ (fun b w=>Rt JS K (.bool b) w) w':=fun w' e=>Ard (Nat.le_trans hB0 e.size) (hV.ext e) fun w2 e2=>RtB _ (c w2 (e.trans e2))
  refine JE (fun _=>aw w (.refl _)) fun _ => ?_
  refine AlO hS fun x w2 ht => ?_
  have e2:Ext w w2:=ht.1
  intro a4 w4 n4 a5 w5 n5
  have ha4:=n4.addr
  have ha5:=n5.addr
  subst ha4 ha5
  have hs4:=n4.size
  have hg4:=n4.get
  have hg5:=n5.get
  refine XH (n5.fr.get hg4) (Nat.le_of_eq rfl) fun w6 s6 => ?_
  rw[QH (by rfl)] at s6
  refine YH (s6.fr.get hg5 (by intro h;have h:w4.heap.size=w2.heap.size:=h;omega)) (Nat.le_of_eq rfl) fun w7 s7 => ?_
  rw[QH (by rfl)] at s7
  have s7f:=s7.fr
  have e27:Ext w2 w7:=by
    have f1:Fr (fun i=>i=w2.heap.size∨i=w4.heap.size) w2 w7:=(Ext.fr (n4.fr.trans n5.fr)).trans ((s6.fr.mono fun i _ h=>.inl h).trans (s7f.mono fun i _ h=>.inr h))
    exact f1.ext_of_new fun i hi=>by rcases hi with rfl | rfl<;>omega
  have hc4:JD w7 ⟨w2.heap.size,0,none⟩ x.cells.toList:=.all (s7f.get (s6.get (ZC (n5.fr.get hg4))) (by intro h;have h:w2.heap.size=w4.heap.size:=h;omega))
  have hc5:JD w7 ⟨w4.heap.size,0,none⟩ (QI.cells ⟨(VV S).2.1,(VV S).2.2⟩).toList:=.all (s7.get (ZC (s6.fr.get hg5 (by intro h;have h:w4.heap.size=w2.heap.size:=h;omega))))
  have e7:Ext w w7:=e2.trans e27
  refine JO (x:=(VV S).2.1) (by simpa [JP] using hc5 0 _ rfl) (JE (fun _=>aw w7 e7) fun _ => ?_)
  refine QV hc4 ?_
  obtain⟨hf1,hf2⟩:=AuE S
  refine AlN (Nat.le_trans hB0 e7.size) (hV.ext e7) (Ams S) ((ht.repB e27.size).ext e27) fun sl w8 e8 hsl => ?_
  generalize (AW (VV S).1)=Q at hf1 hf2 hsl
  obtain⟨L,code,fat⟩:=Q
  dsimp only at hf1 hf2 hsl ⊢
  intro a9 w9 n9
  have ha9:=n9.addr
  subst ha9
  refine YH n9.get (Nat.le_of_eq rfl) fun w10 s10 => ?_
  rw[QH (by rfl)] at s10
  have e10:Ext w8 w10:=by
    have f1:Fr (fun i=>i=w8.heap.size) w8 w10:=(Ext.fr n9.fr).trans s10.fr
    exact f1.ext_of_new fun i hi=>Nat.le_of_eq hi.symm
  have hc10:JD w10 ⟨w8.heap.size,0,none⟩ (QI.cells ⟨code,fat⟩).toList:=.all (s10.get (ZC n9.get))
  have ew:Ext w w10:=(e7.trans e8).trans e10
  replace hsl:=hsl.ext e10
  have hn:=hsl.n
  have hSn:=hS.n
  refine JO (x:=code) (by simpa [JP] using hc10 0 _ rfl) (JE (fun hcode => ?_) fun hcode => ?_)
  · obtain⟨h1,h2,h3⟩:=hf1 (by simpa using hcode)
    subst h1
    have hn:sl.n=0:=hn
    refine VF (by rw[hn];rfl) (JO (x:=fat) (hc10 1 _ rfl) (VF (by simpa using h2) (JO (x:=fat) (hc10 1 _ rfl) (VF (by simp;omega) (aw w10 ew)))))
  · obtain⟨h1,h2,h3⟩:=hf2 (by simpa using hcode)
    refine YE (fun m (y:Int) w'=>∃ k:Nat,y=k∧m+k=L.length∧Ext w10 w') L.length (0:Int) rfl ⟨0,rfl,rfl,.refl _⟩ ?_
    rintro m y w11 ⟨i,rfl,hm,e11⟩ again hag
    refine JE (fun hlt => ?_) fun hge => ?_
    · have hlt:i<L.length:=by simp at hlt;omega
      have hi:L[i]? = some L[i]:=List.getElem?_eq_getElem hlt
      obtain⟨s,hs⟩:∃ s,L[i] = s:=⟨_,rfl⟩
      rw[hs] at hi
      have g:=h3 i s hi
      obtain⟨p,y,hp,hcy,hy⟩:=(hsl.ext e11).get hi
      refine JM hp ⟨by omega,by omega,AcT (x:=y) (by simpa using hcy) ?_⟩
      intro a18 w12 n12
      have ha18:=n12.addr
      subst ha18
      refine RA n12.get (Nat.le_of_eq rfl) fun w13 s13 => ?_
      rw[QH (by rfl)] at s13
      have e13:Ext w11 w13:=(Fr.trans (Ext.fr n12.fr) s13.fr).ext_of_new fun j hj=>Nat.le_of_eq hj.symm
      have hc13:JD w13 ⟨w11.heap.size,0,none⟩ y.cells.toList:=.all (s13.get (ZC n12.get))
      have hya:=hy.around
      have hyk:=hy.kind
      have a1:=g.arnd
      have a2:=g.first
      have a3:=g.kind
      refine JO (x:=y.Around) (hc13 2 _ rfl) (ZH (by simp;omega) (JO (x:=y.Around) (hc13 2 _ rfl) (ZH ?_ (JO (x:=y.Kind) (by simpa [JP] using hc13 0 _ rfl) (ZH ?_ ?_)))))
      · by_cases h0:i=0
        · have:=a2.2 h0
          subst h0
          simp;omega
        · have:¬ s.around<0:=fun h=>h0 (a2.1 h)
          have e1:((i:Int)==0)=false:=by simpa using h0
          have e2:decide (y.Around<0)=false:=by simp;omega
          rw[e1,e2];rfl
      · by_cases h0:i=0
        · have:=a3.2 h0
          subst h0
          simp;omega
        · have:¬ s.kind=1:=fun h=>h0 (a3.1 h)
          have e1:((i:Int)==0)=false:=by simpa using h0
          have e2:(y.Kind==1)=false:=by simp;omega
          rw[e1,e2];rfl
      · refine AuB ⟨(hsl.ext e11).ext e13,hi,h3,⟨hy.kind,hy.at_,hy.around,hy.locals,hy.cells,hy.frees,hy.uses.ext e13⟩,hc13⟩ fun w14 e14 => ?_
        rw[ZS (n:=L.length) (by omega) (by omega) (by omega)]
        exact hag (m - 1) ((i:Int)+1) w14 (by omega) ⟨i+1,by omega,by omega,(e11.trans e13).trans e14⟩
    · exact VF (by simp;omega) (aw w11 (ew.trans e11))
end Go.Proofs.YtjiagmjfnbljjaaGreatDoor
end
