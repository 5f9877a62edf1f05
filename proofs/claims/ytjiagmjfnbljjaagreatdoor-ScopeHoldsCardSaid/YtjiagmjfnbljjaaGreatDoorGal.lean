/- Lemmas for the statement proved in the last of these texts: part 12 of 25. Conditions: none. -/
import Derived.Test.YtjiagmjfnbljjaaGreatDoorGag
import Derived.Lib.MinMax
section
namespace Go.Proofs.YtjiagmjfnbljjaaGreatDoor
open Go
set_option linter.unusedSimpArgs false
set_option linter.unusedVariables false
set_option linter.unusedSectionVars false
set_option maxHeartbeats 8000000
theorem AtT{a b:Int}{w:World}:(Builtin.max_ #[3,3] 3 #[.int .i64 a,.int .i64 b]).run PP w = .ok (.int .i64 (max a b)) w:=
  Go.Lib.run_max_ints w _ _ _ _ a b
theorem Ahq{bd:Nat}:∀ (m:Nat) {w:World} {B:Nat} {n:Nd} {x:JA} {v at_:Int},n.wt≤m→m≤2147483648→B≤bd→Rep w B n x→0≤at_→at_+n.wt≤4294967296→w.heap[bd]? = some (.cells #[.int .i64 v] 3 (0,0))→
    ∀ (K:Bool→World→Prop),(∀ w',Fr (fun i=>i=bd) w w'→w'.heap[bd]? = some (.cells #[.int .i64 (max v (at_+(Ag5 n:Int)))] 3 (0,0))→K true w')→Aal at_ x ⟨83,#[.pointer (some ⟨bd,0,none⟩)]⟩ K w
  | 0,_,_,n,_,_,_,h,_,_,_,_,_,_=>by have:=n.wt_pos;omega
  | m+1,w,B,n,x,v,at_,hw,hm,hB,hr,h0,hat,hd=>by
    intro K hK
    refine AjW _ _ _ _ _ ?_
    unfold AiG
    intro a1 w1 h1
    have ha:=h1.addr
    subst ha
    have hbd:=ZC hd
    refine BJ h1.cells (Ext.refl _) ?_
    refine⟨83,#[.pointer (some ⟨bd,0,none⟩)],rfl,by rfl,?_⟩
    show AdG at_ x ⟨bd,0,none⟩ _ w1
    refine AgD _ _ _ _ _ ?_
    unfold AdU
    intro a2 w2 h2
    have hd2:=h2.fr.get (h1.fr.get hd)
    refine JO (x:=v) (JD.all hd2 0 _ rfl) ?_
    refine YZ (h:=QC .i64) _ AtT ?_
    rw[JY (by omega) (by omega)]
    refine MB hd2 (by simp) fun w3 h3 => ?_
    refine RtB _ ?_
    refine ZH rfl ?_
    have hd3:w3.heap[bd]? = some (.cells #[.int .i64 (max v (at_+1))] 3 (0,0)):=h3.get (ZC hd2)
    have e3:Fr (fun i=>i=bd) w w3:=((h1.fr.trans h2.fr).mono fun _ _ h=>h.elim).trans h3.fr
    have e13:Fr (fun i=>i=bd) w1 w3:=(h2.fr.mono fun _ _ h=>h.elim).trans h3.fr
    have hc:JD w3 ⟨w.heap.size,0,none⟩ x.cells.toList:=h1.cells.fr e13 (by simp;omega)
    have hr3:Rep w3 B n x:=Rep.fr e3 (fun b hb h=>by omega) n x hr
    have hs:=hr3.kids
    have hs1:=hs.1
    have hlen:n.kids.length≤2147483648:=by have:=Nd.wts_length n.kids;have:=n.wts_lt;omega
    have hsz3:=e3.size
    clear h1 h2 h3 e13 hd2 hr hd
    refine MX hc (Ext.refl _) ?_
    refine YE (fun f i w'=>Fr (fun i=>i=bd) w3 w'∧∃ k:Nat,i=k∧f+k=n.kids.length∧w'.heap[bd]? = some (.cells #[.int .i64 (max v (at_+1+(LJ (n.kids.take k):Int)))] 3 (0,0))) n.kids.length 0 rfl ⟨Fr.refl _ _,0,rfl,rfl,by simpa [LJ] using hd3⟩ ?_
    rintro f i w' ⟨e,k,rfl,hn,hd'⟩ again hag
    refine JE (fun hlt => ?_) (fun hge => ?_)
    · have hlt':k<n.kids.length:=by simp at hlt;omega
      refine AaA (hs.fr e fun b hb h=>by omega) hlt' fun y hy => ?_
      intro a4 w4 h4
      have ha:=h4.addr
      subst ha
      have hbw:=ZC hd'
      refine XH h4.get (by decide) fun w5 h5 => ?_
      have e45:Ext w' w5:=h4.fr.set (Nat.le_refl _) h5
      have hc5:JD w5 ⟨w'.heap.size,0,none⟩ y.cells.toList:=JD.all (h5.get (ZC h4.get))
      refine BJ hc5 (Ext.refl _) ?_
      rw[JY (by omega) (by omega)]
      have hkw:=Nd.wt_lt (List.getElem_mem hlt')
      refine Ahq m (v:=max v (at_+1+(LJ (n.kids.take k):Int))) (by omega) (by omega) hB (hy.ext e45) (by omega) (by omega) (e45.get hd') _ fun w6 e6 hd6 => ?_
      refine ZH rfl ?_
      refine hag (f - 1) ((k:Int)+1) w6 (by omega) ⟨(e.trans (e45.mono fun _ _ h=>h.elim)).trans e6,k+1,by omega,by omega,?_⟩
      rw[hd6,AhY _ _ hlt']
      congr 5
      omega
    · have hge':k=n.kids.length:=by simp at hge;omega
      subst hge'
      rw[List.take_length] at hd'
      refine RtB _ (hK _ (e3.trans e) ?_)
      rw[hd',Arw]
      congr 5
      omega
theorem AlI{w:World}{B:Nat}{n:Nd}{x:JA}(hB:B≤w.heap.size)(hw:n.wt<2147483648)(hr:Rep w B n x):Rdv (Ach x) ((Ag5 n:Nat):Int) w:=by
  intro K hK
  refine Ai8 _ _ _ ?_
  unfold AgR
  intro a1 w1 h1 d w2 h2
  have ha:=h2.addr
  subst ha
  have hz:=h1.size
  refine MB h2.get (by decide) fun w3 h3 => ?_
  have e3:Ext w1 w3:=h2.fr.set (Nat.le_refl _) h3
  refine BJ (h1.cells) e3 ?_
  refine Ahq (bd:=w1.heap.size) n.wt (v:=0) (Nat.le_refl _) (by omega) (B:=B) (by omega) (hr.ext (h1.fr.trans e3)) (Int.le_refl 0) (by omega) (h3.get (ZC h2.get)) _ fun w4 e4 hd4 => ?_
  refine JO (x:=((Ag5 n:Nat):Int)) ?_ ?_
  · have:=JD.all hd4 0 _ rfl
    rw[JP] at this
    rw[this]
    congr 2
    omega
  · exact Rt.mk (h:=QC .i64) _ (hK _ (Fr.step (h1.fr.trans e3) e4 fun i hi hd=>by omega))
theorem AlH{B0:Nat}{w:World}{B:Nat}{n:Nd}{x:JA}(hB0:B0≤w.heap.size)(hV:VOk B0 w)(hB:B≤w.heap.size)(hw:n.wt<2147483648)(hr:Rep w B n x):Rdv (Acg x) (if PX MD n then 0 else 11) w:=by
  intro K hK
  refine Ai7 _ _ _ ?_
  unfold AgQ
  intro a1 w1 h1
  have hc:=h1.cells
  have hr1:=hr.ext h1.fr
  have hz:=h1.size
  have hstop:PX MD n=false→∀ w',Ext w1 w'→Rt (QC .i64) K (.int .i64 11) w':=fun h w' e=>by
    rw[h] at hK
    exact Rt.mk (h:=QC .i64) _ (hK _ (h1.fr.trans e))
  have hgo:PX MD n=true→∀ w',Ext w1 w'→Rt (QC .i64) K (.int .i64 0) w':=fun h w' e=>by
    rw[h] at hK
    exact Rt.mk (h:=QC .i64) _ (hK _ (h1.fr.trans e))
  refine BJ hc (Ext.refl _) ?_
  refine AlI (B:=B) (by omega) hw hr1 _ fun w2 e2 => ?_
  refine JE (fun hb => ?_) (fun hb => ?_)
  · refine hstop ?_ _ e2
    have:¬ Ag5 n≤300:=by simp at hb;omega
    unfold PX;rw[decide_eq_false this];rfl
  have hd:decide (Ag5 n≤300)=true:=decide_eq_true (by simp at hb;omega)
  refine FX hc e2 ?_
  rw[hr1.kind]
  refine JE (fun hb2 => ?_) (fun hb2 => ?_)
  · refine hstop ?_ _ e2
    have:(n.kind==1)=false:=by simpa using hb2
    unfold PX;rw[this];simp
  have hk:(n.kind==1)=true:=by simpa using hb2
  refine BJ hc e2 ?_
  have hB1:B0≤w1.heap.size:=by omega
  refine AfS hB1 (hV.ext h1.fr) 2147483648 (Nat.le_refl _) (Ext.fr e2) hw (hr1.ext e2) _ fun w3 e3 => ?_
  refine JE (fun hb3 => ?_) (fun hb3 => ?_)
  · refine hstop ?_ _ (e2.trans e3)
    simp only[Bool.not_eq_true'] at hb3
    unfold PX;rw[hb3];simp
  · refine hgo ?_ _ (e2.trans e3)
    simp only[Bool.not_eq_false'] at hb3
    unfold PX;rw[hd,hk,hb3];rfl
end Go.Proofs.YtjiagmjfnbljjaaGreatDoor
end
