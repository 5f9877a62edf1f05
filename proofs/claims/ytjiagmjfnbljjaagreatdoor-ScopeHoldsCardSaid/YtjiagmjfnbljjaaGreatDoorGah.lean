/- Lemmas for the statement proved in the last of these texts: part 8 of 25. Conditions: none. -/
import Derived.Test.YtjiagmjfnbljjaaGreatDoorGag
section
namespace Go.Proofs.YtjiagmjfnbljjaaGreatDoor
open Go
set_option maxHeartbeats 4000000
set_option linter.unusedVariables false
set_option linter.unusedSimpArgs false
section
variable{e:Pe}{w:World}{s:PS}{A:Acc}{l:List En}{r:Rp}
abbrev ndE(b:Nat)(x:JA):En:=.box b (.cells x.cells 27)
abbrev tkE(b:Nat)(x:JN):En:=.box b (.cells x.cells 131)
abbrev zNd(b:Nat):En:=.box b (.cells #[.int .i64 0,.int .i64 0,.string (⟨#[]⟩:ByteArray),.bool false,.slice none 0 0,.slice none 0 0] 27)
abbrev zTk(b:Nat):En:=.box b (.cells #[.int .i64 0,.string (⟨#[]⟩:ByteArray),.int .i64 0] 131)
section
variable{x y:JA}{b:Nat}{a0 a1 a2 a3 a4:En}{K:World→Prop}
theorem PM.z0(h:PM e w s A (zNd b :: l) r)(c:∀ w',PM e w' s A (ndE b x :: l) r→K w'):JC ⟨b,0,none⟩ x K w:=h.st_nd 0 rfl rfl c
theorem PM.z1(h:PM e w s A (a0 :: zNd b :: l) r)(c:∀ w',PM e w' s A (a0 :: ndE b x :: l) r→K w'):JC ⟨b,0,none⟩ x K w:=h.st_nd 1 rfl rfl c
theorem PM.z2(h:PM e w s A (a0 :: a1 :: zNd b :: l) r)(c:∀ w',PM e w' s A (a0 :: a1 :: ndE b x :: l) r→K w'):JC ⟨b,0,none⟩ x K w:=h.st_nd 2 rfl rfl c
theorem PM.z3(h:PM e w s A (a0 :: a1 :: a2 :: zNd b :: l) r)(c:∀ w',PM e w' s A (a0 :: a1 :: a2 :: ndE b x :: l) r→K w'):JC ⟨b,0,none⟩ x K w:=h.st_nd 3 rfl rfl c
theorem PM.z4(h:PM e w s A (a0 :: a1 :: a2 :: a3 :: zNd b :: l) r)(c:∀ w',PM e w' s A (a0 :: a1 :: a2 :: a3 :: ndE b x :: l) r→K w'):JC ⟨b,0,none⟩ x K w:=h.st_nd 4 rfl rfl c
theorem PM.s0(h:PM e w s A (ndE b y :: l) r)(c:∀ w',PM e w' s A (ndE b x :: l) r→K w'):JC ⟨b,0,none⟩ x K w:=h.st_nd 0 rfl rfl c
theorem PM.s1(h:PM e w s A (a0 :: ndE b y :: l) r)(c:∀ w',PM e w' s A (a0 :: ndE b x :: l) r→K w'):JC ⟨b,0,none⟩ x K w:=h.st_nd 1 rfl rfl c
theorem PM.t0{x:JN}(h:PM e w s A (zTk b :: l) r)(c:∀ w',PM e w' s A (tkE b x :: l) r→K w'):XA ⟨b,0,none⟩ x K w:=h.st_tk 0 rfl rfl c
end
theorem PM.sof0(h:PM e w s A l r):Sof e.w0.heap.size l w:=h.sof fun _ h=>h
theorem PM.sof1{a0:En}(h:PM e w s A (a0 :: l) r):Sof e.w0.heap.size l w:=h.un.sof0
theorem PM.sof2{a0 a1:En}(h:PM e w s A (a0 :: a1 :: l) r):Sof e.w0.heap.size l w:=h.un.sof1
theorem PM.exS{P:(World→Prop)→Prop}(h:PM e w s A l r)(p:P (Sof e.w0.heap.size l)):∃ S:World→Prop,S w∧P S:=⟨_,h.sof0,p⟩
theorem PM.sw{a0 a1:En}(h:PM e w s A (a0 :: a1 :: l) r):PM e w s A (a1 :: a0 :: l) r:=by
  obtain⟨⟨xss,r1,hz,hm⟩,hi⟩:=h
  exact⟨⟨xss,r1,hz,hm.perm (.cons _ (List.Perm.append_left _ (.swap _ _ _)))⟩,hi⟩
abbrev kE1(b:Nat)(x:JA):En:=.box b (.cells #[.int .i64 x.Kind,.int .i64 x.At,.string x.Text,.bool x.Num_Neg,x.Num_Mag.v,x.Kids.v] 27)
abbrev kE2(b:Nat)(x y:JA):En:=.box b (.cells #[.int .i64 x.Kind,.int .i64 x.At,.string x.Text,.bool x.Num_Neg,x.Num_Mag.v,x.Kids.v,.int .i64 y.Kind,.int .i64 y.At,.string y.Text,.bool y.Num_Neg,y.Num_Mag.v,y.Kids.v] 27)
abbrev kE3(b:Nat)(x y z:JA):En:=.box b (.cells #[.int .i64 x.Kind,.int .i64 x.At,.string x.Text,.bool x.Num_Neg,x.Num_Mag.v,x.Kids.v,.int .i64 y.Kind,.int .i64 y.At,.string y.Text,.bool y.Num_Neg,y.Num_Mag.v,y.Kids.v,.int .i64 z.Kind,.int .i64 z.At,.string z.Text,.bool z.Num_Neg,z.Num_Mag.v,z.Kids.v] 27)
theorem PM.k1{b:Nat}{x:JA}{n:Nd}(h:PM e w s A (kE1 b x :: l) r)(hx:(n,x)∈r):PM e w s ((⟨some ⟨b,0,none⟩,1,1⟩,[n]) :: A) l r:=h.accB (ns:=[n]) (xs:=[x]) ⟨hx,trivial⟩ rfl rfl (by decide)
theorem PM.k2{b:Nat}{x y:JA}{n m:Nd}(h:PM e w s A (kE2 b x y :: l) r)(hx:(n,x)∈r)(hy:(m,y)∈r):PM e w s ((⟨some ⟨b,0,none⟩,2,2⟩,[n,m]) :: A) l r:=h.accB (ns:=[n,m]) (xs:=[x,y]) ⟨hx,hy,trivial⟩ rfl rfl (by decide)
theorem PM.k3{b:Nat}{x y z:JA}{n m o:Nd}(h:PM e w s A (kE3 b x y z :: l) r)(hx:(n,x)∈r)(hy:(m,y)∈r)(hz:(o,z)∈r):PM e w s ((⟨some ⟨b,0,none⟩,3,3⟩,[n,m,o]) :: A) l r:=h.accB (ns:=[n,m,o]) (xs:=[x,y,z]) ⟨hx,hy,hz,trivial⟩ rfl rfl (by decide)
theorem AtV:SlT 25 27 6 88:=NP
theorem PM.push{b:Nat}{x:JA}{n:Nd}{sl:Sl}{ns:List Nd}{K:Sl→World→Prop}(h:PM e w s ((sl,ns) :: A) (kE1 b x :: l) r)(hx:(n,x)∈r)(hl:ns.length≤2147483648)(c:∀ sl' w',PM e w' s ((sl',ns ++ [n]) :: A) l r→K sl' w') :
    rn (Builtin.append_ #[25,25] 25 #[sl.v,.slice (some ⟨b,0,none⟩) 1 1]) hSl K w:=by
  have hbox:=h.cells (List.mem_cons_self ..)
  obtain⟨⟨xss,r1,hz,hM⟩,hi⟩:=h.un
  cases xss with
  | nil=>exact hz.elim
  | cons xs xss=>
    obtain⟨⟨hz1,hlen⟩,hz2⟩:=hz
    have hlx:xs.length=ns.length:=hz1.length
    replace hlen:sl.n=xs.length:=hlen
    have hM2:Mz e.w0.heap.size (XP e.w0 (r1++r)) w (.row 27 6 sl (VM xs) :: (.box e.bs (AiS e.L s) :: (AcB A xss++l))):=hM.perm (.swap _ _ _)
    refine hM2.app AtV (src:=⟨some ⟨b,0,none⟩,1,1⟩) (news:=x.cells.toList) ⟨nofun,fun a ha => ?_⟩ rfl (fun u hu => ?_) (by simp only;omega) (by decide) fun sl' w' hs' h'=>c sl' w' ⟨⟨(xs ++ [x]) :: xss,r1++r,⟨⟨?_,?_⟩,?_⟩,?_⟩,hi⟩
    · simp only[Option.some.injEq] at ha
      subst ha
      exact hbox
    · simp only[JA.cells,List.mem_cons,List.not_mem_nil,or_false] at hu
      rcases hu with rfl | rfl | rfl | rfl | rfl | rfl<;>rfl
    · exact(hz1.mono fun q hq=>List.mem_append_left _ hq).snoc (List.mem_append_right _ hx)
    · simp only at hs' ⊢
      simp;omega
    · exact hz2.mono fun q hq=>List.mem_append_left _ hq
    · refine XP.sub (r:=r1++r) ?_ fun q hq => ?_
      · have hfl:VM (xs ++ [x])=VM xs++x.cells.toList:=by simp[VM]
        show Mz _ _ _ (.box e.bs (AiS e.L s) :: (.row 27 6 sl' (VM (xs ++ [x])) :: (AcB A xss++l)))
        rw[hfl]
        exact h'.perm (.swap _ _ _)
      · rcases List.mem_append.1 hq with hq | hq
        · exact hq
        · exact List.mem_append_right _ hq
theorem PM.target{n:Nd}{x:JA}{K:Bool→World→Prop}(h:PM e w s A l r)(hx:(n,x)∈r)(c:∀ w',PM e w' s A l r→K (BG n) w'):EE x K w:=by
  refine AgA _ _ _ ?_
  unfold AdQ
  refine h.bx fun b w h => ?_
  have hk:=h.kind hx
  refine h.ld_ndKind JR hx (JE (fun hb => ?_) (fun hb=>h.ld_ndKind JR hx (JE (fun hb2 => ?_) (fun hb2=>h.ld_ndKind JR hx ?_))))
  · refine RtB _ (?_:K true w)
    have:BG n=true:=by unfold BG;rw[hb];rfl
    rw[← this];exact c w h.un
  · refine RtB _ (?_:K true w)
    have:BG n=true:=by unfold BG;rw[hb2];simp
    rw[← this];exact c w h.un
  · refine RtB _ ?_
    have:BG n=(n.kind==54):=by unfold BG;rw[hb,hb2];rfl
    rw[← this];exact c w h.un
theorem PM.named{t:Tk}{K:Bool→World→Prop}(h:PM e w s A l r)(ht:t.Text.size≤2147483648)(c:∀ w',PM e w' s A l r→K (CI t) w'):BX t K w:=by
  refine Ahx _ _ _ ?_
  unfold Afn
  refine h.bx fun b w h=>h.ld_tkKind JR (JE (fun hb => ?_) (fun hb => ?_))
  · refine h.ld_tkText JR (AlA _ ht _ fun w1 e1=>RtB _ ?_)
    have:CI t=OS t.Text:=by unfold CI;rw[hb];rfl
    rw[← this];exact c w1 (h.un.ext e1)
  · refine RtB _ (?_:K false w)
    have:CI t=false:=by unfold CI;rw[hb];rfl
    rw[← this];exact c w h.un
end
def Aq8(num:ByteArray→(Bool×List Int)×Bool):Prop:=∀ ⦃e:Pe⦄ ⦃w:World⦄ ⦃s:PS⦄ ⦃A:Acc⦄ ⦃l:List En⦄ ⦃r:Rp⦄ ⦃t:ByteArray⦄ ⦃K:GC→World→Prop⦄,PM e w s A l r→t.size≤2147483648→
  (∀ x w',x.x1=(num t).2→PM e w' s A l ((.mk 0 0 (⟨#[]⟩:ByteArray) (num t).1.1 (num t).1.2 [],⟨0,0,(⟨#[]⟩:ByteArray),x.x0.Neg,x.x0.Mag,⟨none,0,0⟩⟩) :: r)→K x w')→OY t K w
structure AgW(e:Pe)(num:ByteArray→(Bool×List Int)×Bool):Prop where
  txt:∀ t∈e.T,t.Text.size≤2147483648
  num:Aq8 num
theorem AgW.now{e:Pe}{num:ByteArray→(Bool×List Int)×Bool}(h:AgW e num)(s:PS):(ZN e.T s).Text.size≤2147483648:=by
  unfold ZN
  cases hi:e.T[s.i]? with
  | none=>show(⟨#[]⟩:ByteArray).size≤_;decide
  | some t=>exact h.txt t (List.mem_of_getElem? hi)
section
variable{e:Pe}{w:World}{s:PS}{A:Acc}{l:List En}{r:Rp}{num:ByteArray→(Bool×List Int)×Bool}
theorem PM.name(E:AgW e num){K:ByteArray→World→Prop}(h:PM e w s A l r)(c:∀ w',PM e w' (AZ e.T s) A l r→K (OT e.T s) w'):VC (some ⟨e.bs,0,none⟩) K w:=by
  refine Adc _ _ _ ?_
  unfold TN
  refine h.now fun w h=>h.bx fun b w h=>h.t0 fun w h=>h.bad (JE (fun hb => ?_) (fun hb => ?_))
  · have h0:LR e.T s=false:=by unfold LR;rw[hb];rfl
    refine h.wrong fun w h=>Rt.mk (h:=EB) _ ?_
    have h1:OT e.T s=⟨#[]⟩:=by unfold OT;rw[h0];rfl
    have h2:AZ e.T s=DH e.T s:=by unfold AZ;rw[h0];rfl
    rw[← h1];exact c w (h2▸h.un)
  · refine h.ld_tk JR (h.named (E.now s) fun w h=>JE (fun hb2 => ?_) (fun hb2 => ?_))
    · have h0:LR e.T s=false:=by unfold LR;rw[hb];simpa using hb2
      refine h.wrong fun w h=>Rt.mk (h:=EB) _ ?_
      have h1:OT e.T s=⟨#[]⟩:=by unfold OT;rw[h0];rfl
      have h2:AZ e.T s=DH e.T s:=by unfold AZ;rw[h0];rfl
      rw[← h1];exact c w (h2▸h.un)
    · have hn:CI (ZN e.T s)=true:=by simpa using hb2
      have h0:LR e.T s=true:=by unfold LR;rw[hb,hn];rfl
      have hk:(ZN e.T s).Kind≠9:=by
        unfold CI at hn
        simp only[Bool.and_eq_true,beq_iff_eq] at hn
        rw[hn.1];decide
      unfold LZ
      refine h.inc (SU hk) fun w h=>h.ld_tkText JR (Rt.mk (h:=EB) _ ?_)
      have h1:OT e.T s=(ZN e.T s).Text:=by unfold OT;rw[h0];rfl
      have h2:AZ e.T s=s.inc:=by unfold AZ;rw[h0];rfl
      rw[← h1];exact c w (h2▸h.un)
theorem PM.begins(E:AgW e num){K:Bool→World→Prop}(h:PM e w s A l r)(c:∀ w',PM e w' s A l r→K (MT num e.T s) w'):XD (some ⟨e.bs,0,none⟩) K w:=by
  refine Aba _ _ _ ?_
  unfold PB
  refine h.now fun w h=>h.bx fun b w h=>h.t0 fun w h=>h.bad ?_
  have fin:∀ {b':Bool} {w:World},PM e w s A (tkE b (ZN e.T s) :: l) r→MT num e.T s=b'→Rt JS K (.bool b') w:=fun h hb=>RtB _ (hb▸c _ h.un)
  refine JE (fun hb=>fin h (by unfold MT;rw[hb];rfl)) (fun hb => ?_)
  have hB:MT num e.T s=AeJ num (ZN e.T s):=by unfold MT;rw[hb];rfl
  unfold AeJ at hB
  refine h.ld_tkKind JR (JE (fun hb1 => ?_) (fun hb1 => ?_))
  · refine h.ld_tk JR (h.named (E.now s) fun w h=>fin h ?_)
    rw[hB,if_pos hb1]
  rw[if_neg (ne_true_of_eq_false hb1)] at hB
  refine JE (fun hb1 => ?_) (fun hb1 => ?_)
  · rw[if_pos hb1] at hB
    refine h.ld_tkText JR (E.num h (E.now s) fun x w hx h => ?_)
    refine h.bx fun b2 w h => ?_
    refine FQ (h.heap JR) (by simp) fun w' h' => ?_
    have h2:=h.1.set (k:=0) rfl h'
    have h3:PM e w' s A _ _:=⟨h2,h.2⟩
    refine RtB _ ?_
    rw[hx,← hB]
    exact c _ (h3.sub (.cons _ (.cons _ (List.Sublist.refl _))) fun q hq=>List.mem_cons_of_mem _ hq)
  rw[if_neg (ne_true_of_eq_false hb1)] at hB
  refine JE (fun hb1 => ?_) (fun hb1 => ?_)
  · rw[if_pos hb1] at hB
    refine h.ld_tkText JR (Am3 _ (E.now s) _ fun w1 e1 => ?_)
    exact fin (h.ext e1) hB
  rw[if_neg (ne_true_of_eq_false hb1)] at hB
  refine JE (fun hb1 => ?_) (fun hb1 => ?_)
  · rw[if_pos hb1] at hB
    refine h.ld_tkText JR (JE (fun hb1=>fin h (by rw[hB,hb1];rfl)) (fun hb1 => ?_))
    refine h.ld_tkText JR (JE (fun hb2=>fin h (by rw[hB,hb1,hb2];rfl)) (fun hb2 => ?_))
    refine h.ld_tkText JR (JE (fun hb3=>fin h (by rw[hB,hb1,hb2,hb3];rfl)) (fun hb3 => ?_))
    refine h.ld_tkText JR (fin h (by rw[hB,hb1,hb2,hb3];rfl))
  rw[if_neg (ne_true_of_eq_false hb1)] at hB
  refine JE (fun hb1 => ?_) (fun hb1 => ?_)
  · rw[if_pos hb1] at hB
    refine h.ld_tkText JR (JE (fun hb1=>fin h (by rw[hB,hb1];rfl)) (fun hb1 => ?_))
    refine h.ld_tkText JR (JE (fun hb2=>fin h (by rw[hB,hb1,hb2];rfl)) (fun hb2 => ?_))
    refine h.ld_tkText JR (JE (fun hb3=>fin h (by rw[hB,hb1,hb2,hb3];rfl)) (fun hb3 => ?_))
    refine h.ld_tkText JR (fin h (by rw[hB,hb1,hb2,hb3];rfl))
  rw[if_neg (ne_true_of_eq_false hb1)] at hB
  exact fin h hB
theorem Aia(T:List Tk)(s:PS)(t:ByteArray)(l:List ByteArray):BS T s (t :: l)=if isP T 5 t s then t else BS T s l:=rfl
theorem PM.one{b m:Nat}{cs:Array Value}{ts:List ByteArray}{K:ByteArray→World→Prop}(h:PM e w s A (.box b (.cells cs 9) :: l) r)(hm:m=ts.length)(hc:cs.toList=ts.map .string)(hl:ts.length≤100)(c:∀ w',PM e w' s A l r→K (BS e.T s ts) w'):VR (some ⟨e.bs,0,none⟩) ⟨some ⟨b,0,none⟩,m,m⟩ K w:=by
  subst hm
  refine AdC _ _ _ _ ?_
  unfold Aat
  refine YE (fun n i w'=>∃ k:Nat,i=k∧n+k=ts.length∧PM e w' s A (.box b (.cells cs 9) :: l) r∧BS e.T s (ts.drop k)=BS e.T s ts) ts.length 0 rfl ⟨0,rfl,rfl,h,rfl⟩ ?_
  rintro n i w' ⟨k,rfl,hn,h,hdrop⟩ again hag
  refine JE (fun hb => ?_) (fun hb => ?_)
  · have hlt:k<ts.length:=by simp at hb;omega
    have hget:∀ {w:World},PM e w s A (.box b (.cells cs 9) :: l) r→w.cell? ((⟨b,0,none⟩:Addr).add ((k:Int).toNat * 1))=some (.string ts[k]):=by
      intro w h
      refine h.cells (List.mem_cons_self ..) _ _ ?_
      rw[hc];simp[hlt]
    rw[List.drop_eq_getElem_cons hlt] at hdrop
    rw[Aia] at hdrop
    refine JM rfl ⟨by omega,by simpa using hlt,YS (hget h) ?_⟩
    refine h.sign _ fun w h=>JE (fun hb2 => ?_) (fun hb2 => ?_)
    · refine JM rfl ⟨by omega,by simpa using hlt,YS (hget h) (Rt.mk (h:=EB) _ ?_)⟩
      rw[if_pos hb2] at hdrop
      rw[hdrop];exact c w h.un
    · rw[if_neg (ne_true_of_eq_false hb2)] at hdrop
      rw[ZS (n:=ts.length) (by omega) (by omega) (by omega)]
      exact hag (n - 1) ((k:Int)+1) w (by omega) ⟨k+1,by omega,by omega,h,hdrop⟩
  · have hk:ts.length≤k:=by simp at hb;omega
    rw[List.drop_eq_nil_of_le hk] at hdrop
    refine Rt.mk (h:=EB) _ ?_
    have:BS e.T s ts=⟨#[]⟩:=hdrop.symm
    rw[← this];exact c w' h.un
end
abbrev NdC(e:Pe)(C:(JA→World→Prop)→World→Prop)(m:PS→Option (Nd×PS)):Prop:=
  ∀ ⦃w:World⦄ ⦃s:PS⦄ ⦃A:Acc⦄ ⦃l:List En⦄ ⦃r:Rp⦄ ⦃n:Nd⦄ ⦃s':PS⦄ ⦃K:JA→World→Prop⦄,PM e w s A l r→m s=some (n,s')→(∀ x w',PM e w' s' A l ((n,x) :: r)→K x w')→C K w
abbrev LsC(e:Pe)(F:Nat)(C:Sl→(Sl→World→Prop)→World→Prop)(m:List Nd→PS→Option (List Nd×PS)):Prop:=
  ∀ ⦃w:World⦄ ⦃s:PS⦄ ⦃A:Acc⦄ ⦃l:List En⦄ ⦃r:Rp⦄ ⦃sl:Sl⦄ ⦃ns ns':List Nd⦄ ⦃s':PS⦄ ⦃K:Sl→World→Prop⦄,PM e w s ((sl,ns) :: A) l r→ns.length+F≤2147483648→m ns s=some (ns',s')→(∀ sl' w',ns'.length≤2147483648→PM e w' s' ((sl',ns') :: A) l r→K sl' w')→C sl K w
abbrev NlC(e:Pe)(F:Nat)(C:(Sl→World→Prop)→World→Prop)(m:PS→Option (List Nd×PS)):Prop:=
  ∀ ⦃w:World⦄ ⦃s:PS⦄ ⦃A:Acc⦄ ⦃l:List En⦄ ⦃r:Rp⦄ ⦃ns:List Nd⦄ ⦃s':PS⦄ ⦃K:Sl→World→Prop⦄,PM e w s A l r→F≤2147483648→m s=some (ns,s')→(∀ sl w',ns.length≤2147483648→PM e w' s' ((sl,ns) :: A) l r→K sl w')→C K w
structure TZ(e:Pe)(num:ByteArray→(Bool×List Int)×Bool)(g:Nat):Prop where
  expr:NdC e (QJ (some ⟨e.bs,0,none⟩)) (lv num e.T g).expr
  or_:NdC e (DX (some ⟨e.bs,0,none⟩)) (lv num e.T g).or_
  and_:NdC e (EZ (some ⟨e.bs,0,none⟩)) (lv num e.T g).and_
  not_:NdC e (MN (some ⟨e.bs,0,none⟩)) (lv num e.T g).not_
  compare:NdC e (EO (some ⟨e.bs,0,none⟩)) (lv num e.T g).compare
  row:∀ k:Nat,k≤5→NdC e (UV (some ⟨e.bs,0,none⟩) ((k:Int) - 1)) ((lv num e.T g).row k)
  minus:NdC e (AE (some ⟨e.bs,0,none⟩)) (lv num e.T g).minus
  postfix_:NdC e (VO (some ⟨e.bs,0,none⟩)) (lv num e.T g).postfix_
  atom:NdC e (IZ (some ⟨e.bs,0,none⟩)) (lv num e.T g).atom
  round:∀ a,NdC e (IB (some ⟨e.bs,0,none⟩) a) ((lv num e.T g).round a)
  square:∀ a,NdC e (HE (some ⟨e.bs,0,none⟩) a) ((lv num e.T g).square a)
  curly:∀ a,NdC e (IA (some ⟨e.bs,0,none⟩) a) ((lv num e.T g).curly a)
  more:LsC e (4 * g) (GH (some ⟨e.bs,0,none⟩)) (lv num e.T g).more
  comp:LsC e (4 * g) (VB (some ⟨e.bs,0,none⟩)) (lv num e.T g).comp
  item:NdC e (ED (some ⟨e.bs,0,none⟩)) (lv num e.T g).item
  items:LsC e (4 * g) (VL (some ⟨e.bs,0,none⟩)) (lv num e.T g).items
  args:LsC e (4 * g) (IY (some ⟨e.bs,0,none⟩)) fun l=>(lv num e.T g).args l 0
  exprs:NdC e (XB (some ⟨e.bs,0,none⟩)) (lv num e.T g).exprs
  targets:NdC e (DR (some ⟨e.bs,0,none⟩)) (lv num e.T g).targets
  simple:NdC e (HD (some ⟨e.bs,0,none⟩)) (lv num e.T g).simple
  block:NdC e (YP (some ⟨e.bs,0,none⟩)) (lv num e.T g).block
  choice:∀ a,NdC e (MI (some ⟨e.bs,0,none⟩) a) ((lv num e.T g).choice a)
  caught:LsC e (4 * g) (HA (some ⟨e.bs,0,none⟩)) fun l=>(lv num e.T g).caught l false
  stmt:NdC e (DY (some ⟨e.bs,0,none⟩)) (lv num e.T g).stmt
  names:NlC e (4 * g) (AF (some ⟨e.bs,0,none⟩)) ((lv num e.T g).names [])
  params:NlC e (4 * g) (HB (some ⟨e.bs,0,none⟩)) ((lv num e.T g).params [] false)
  assigned:∀ ⦃w:World⦄ ⦃s:PS⦄ ⦃A:Acc⦄ ⦃l:List En⦄ ⦃r:Rp⦄ ⦃n m:Nd⦄ ⦃x:JA⦄ ⦃s':PS⦄ ⦃K:JA→World→Prop⦄,PM e w s A l r→(n,x)∈r→(lv num e.T g).assigned n s=some (m,s')→(∀ y w',PM e w' s' A l ((m,y) :: r)→K y w')→AJ (some ⟨e.bs,0,none⟩) x K w
theorem TZ.row5{e:Pe}{num:ByteArray→(Bool×List Int)×Bool}{g:Nat}(h:TZ e num g):NdC e (UV (some ⟨e.bs,0,none⟩) 4) ((lv num e.T g).row 5):=h.row 5 (by decide)
theorem Sof.ld_ndAt3{e:Pe}{w:World}{s:PS}{A:Acc}{l':List En}{r:Rp}(h:PM e w s A l' r){B b:Nat}{l:List En}{n:Nd}{x:JA}{K:Int→Prop}(hx : .box b (.cells x.cells 27)∈l)(hr:(n,x)∈r)(c:K n.at_):QG (Sof B l) ((⟨b,0,none⟩:Addr).add 1) K:=by
  have:=h.at_ hr
  refine Sof.ld_ndAt hx ?_
  rw[this];exact c
end Go.Proofs.YtjiagmjfnbljjaaGreatDoor
end
section
namespace Go.Proofs.YtjiagmjfnbljjaaGreatDoor
open Go
set_option maxHeartbeats 4000000
set_option linter.unusedVariables false
set_option linter.unusedSimpArgs false
set_option linter.unusedSectionVars false
theorem Ajx{T:List Tk}{s:PS}:∀ {ts:List ByteArray},(!((BS T s ts).toList==(⟨#[]⟩:ByteArray).toList))=true→s.i<T.length
  | [],h=>by simp[BS] at h
  | t :: ts,h=>by
    rw[Aia] at h
    by_cases ht:isP T 5 t s=true
    · exact AmU (by decide) ht
    · rw[if_neg ht] at h;exact Ajx h
theorem RtN{x:JA}{K:JA→World→Prop}{w:World}(k:K x w):Rt JQ K x.v w:=⟨x,rfl,k⟩
theorem RtS{x:Sl}{K:Sl→World→Prop}{w:World}(k:K x w):Rt hSl K x.v w:=⟨x,rfl,k⟩
theorem NdC.bind{α:Type}{e:Pe}{C:(JA→World→Prop)→World→Prop}{m:PS→Option (Nd×PS)}(hC:NdC e C m){w:World}{s:PS}{A:Acc}{l:List En}{r:Rp}{K:JA→World→Prop}{f:Nd×PS→Option α}{out:α}(h:PM e w s A l r)(hm:(m s).bind f=some out)
    (c:∀ p s1 x w',f (p,s1)=some out→PM e w' s1 A l ((p,x) :: r)→K x w'):C K w:=by
  obtain⟨⟨p,s1⟩,hp,hf⟩:=Option.bind_eq_some_iff.1 hm
  exact hC h hp fun x w' h'=>c p s1 x w' hf h'
theorem LsC.bind{α:Type}{e:Pe}{F:Nat}{C:Sl→(Sl→World→Prop)→World→Prop}{m:List Nd→PS→Option (List Nd×PS)}(hC:LsC e F C m){w:World}{s:PS}{A:Acc}{l:List En}{r:Rp}{sl:Sl}{ns:List Nd}{K:Sl→World→Prop}{f:List Nd×PS→Option α}{out:α}(h:PM e w s ((sl,ns) :: A) l r)(hl:ns.length+F≤2147483648)(hm:(m ns s).bind f=some out)
    (c:∀ sl' ns' s1 w',f (ns',s1)=some out→ns'.length≤2147483648→PM e w' s1 ((sl',ns') :: A) l r→K sl' w'):C sl K w:=by
  obtain⟨⟨p,s1⟩,hp,hf⟩:=Option.bind_eq_some_iff.1 hm
  exact hC h hl hp fun x w' h'=>c x p s1 w' hf h'
theorem NlC.bind{α:Type}{e:Pe}{F:Nat}{C:(Sl→World→Prop)→World→Prop}{m:PS→Option (List Nd×PS)}(hC:NlC e F C m){w:World}{s:PS}{A:Acc}{l:List En}{r:Rp}{K:Sl→World→Prop}{f:List Nd×PS→Option α}{out:α}(h:PM e w s A l r)(hl:F≤2147483648)(hm:(m s).bind f=some out)
    (c:∀ sl' ns' s1 w',f (ns',s1)=some out→ns'.length≤2147483648→PM e w' s1 ((sl',ns') :: A) l r→K sl' w'):C K w:=by
  obtain⟨⟨p,s1⟩,hp,hf⟩:=Option.bind_eq_some_iff.1 hm
  exact hC h hl hp fun x w' hl' h'=>c x p s1 w' hf hl' h'
section
variable{e:Pe}{num:ByteArray→(Bool×List Int)×Bool}(E:AgW e num){g:Nat}(hG:TZ e num g)(hg:4 * g+4≤2147483648)
include E hG hg
theorem Ask(a:Int):NdC e (IB (some ⟨e.bs,0,none⟩) a) (Agk e.T (lv num e.T g) a):=by
  intro w s A l r n s' K h hm hK
  refine Ab4 _ _ _ _ ?_
  unfold RN
  unfold Agk at hm
  repeat' first
    | (with_reducible refine h.bx fun b w h => ?_)
    | (with_reducible refine h.z0 fun w h => ?_)
    | (with_reducible refine h.z1 fun w h => ?_)
    | (with_reducible refine h.ld_nd (by first | exact JR | exact QF | exact QP | exact QQ | exact QR | exact QT) ?_)
    | (with_reducible refine h.lr_nd (by first | exact JR | exact QF | exact QP | exact QQ | exact QR | exact QT) ?_)
    | (with_reducible refine h.sign _ fun w h => ?_)
    | (with_reducible refine h.take _ (by decide) _ fun w h => ?_)
    | (with_reducible refine h.must _ (by decide) _ fun w h => ?_)
    | (with_reducible refine h.node _ _ _ fun w h => ?_)
    | (with_reducible refine h.node0 _ _ _ fun w h => ?_)
    | (with_reducible refine JE (fun hb => ?_) (fun hb => ?_)<;>first | rw[if_pos hb] at hm | rw[if_neg (ne_true_of_eq_false hb)] at hm | skip)
    | ((with_reducible refine hG.expr.bind h hm fun p s1 x w hm h => ?_);try dsimp only at hm)
    | ((with_reducible refine hG.more.bind (h.k1 (by first | exact JR | exact QF | exact QP | exact QQ | exact QR | exact QT)) (by simp only[List.length_cons,List.length_nil,List.length_append]<;>omega) hm fun sl ns s1 w hm hl h => ?_);try dsimp only at hm)
    | (with_reducible refine RtN ?_)
  all_goals (first | (cases hm;exact hK _ _ (h.sub (by repeat first | exact List.Sublist.refl _ | apply List.Sublist.cons) (fun q hq=>by rcases List.mem_cons.1 hq with rfl | hq<;>simp only[List.mem_cons,true_or,or_true,hq]))) | exact hK _ _ (h.sub (by repeat first | exact List.Sublist.refl _ | apply List.Sublist.cons) (fun q hq=>by rcases List.mem_cons.1 hq with rfl | hq<;>simp only[List.mem_cons,true_or,or_true,hq])) | skip)
theorem AqY(a:Int):NdC e (HE (some ⟨e.bs,0,none⟩) a) (AcJ e.T (lv num e.T g) a):=by
  intro w s A l r n s' K h hm hK
  refine Abf _ _ _ _ ?_
  unfold PG
  unfold AcJ at hm
  repeat' first
    | (with_reducible refine h.bx fun b w h => ?_)
    | (with_reducible refine h.z0 fun w h => ?_)
    | (with_reducible refine h.z1 fun w h => ?_)
    | (with_reducible refine h.ld_nd (by first | exact JR | exact QF | exact QP | exact QQ | exact QR | exact QT) ?_)
    | (with_reducible refine h.lr_nd (by first | exact JR | exact QF | exact QP | exact QQ | exact QR | exact QT) ?_)
    | (with_reducible refine h.word _ fun w h => ?_)
    | (with_reducible refine h.take _ (by decide) _ fun w h => ?_)
    | (with_reducible refine h.must _ (by decide) _ fun w h => ?_)
    | (with_reducible refine h.node _ _ _ fun w h => ?_)
    | (with_reducible refine h.node0 _ _ _ fun w h => ?_)
    | (with_reducible refine JE (fun hb => ?_) (fun hb => ?_)<;>first | rw[if_pos hb] at hm | rw[if_neg (ne_true_of_eq_false hb)] at hm | skip)
    | ((with_reducible refine hG.expr.bind h hm fun p s1 x w hm h => ?_);try dsimp only at hm)
    | ((with_reducible refine hG.more.bind (h.k1 (by first | exact JR | exact QF | exact QP | exact QQ | exact QR | exact QT)) (by simp only[List.length_cons,List.length_nil,List.length_append]<;>omega) hm fun sl ns s1 w hm hl h => ?_);try dsimp only at hm)
    | ((with_reducible refine hG.comp.bind (h.k1 (by first | exact JR | exact QF | exact QP | exact QQ | exact QR | exact QT)) (by simp only[List.length_cons,List.length_nil,List.length_append]<;>omega) hm fun sl ns s1 w hm hl h => ?_);try dsimp only at hm)
    | (with_reducible refine RtN ?_)
  all_goals (first | (cases hm;exact hK _ _ (h.sub (by repeat first | exact List.Sublist.refl _ | apply List.Sublist.cons) (fun q hq=>by rcases List.mem_cons.1 hq with rfl | hq<;>simp only[List.mem_cons,true_or,or_true,hq]))) | exact hK _ _ (h.sub (by repeat first | exact List.Sublist.refl _ | apply List.Sublist.cons) (fun q hq=>by rcases List.mem_cons.1 hq with rfl | hq<;>simp only[List.mem_cons,true_or,or_true,hq])) | skip)
theorem Atd  : NdC e (ED (some ⟨e.bs,0,none⟩)) (Aku e.T (lv num e.T g)):=by
  intro w s A l r n s' K h hm hK
  refine Ac9 _ _ _ ?_
  unfold TK
  unfold Aku at hm
  repeat' first
    | (with_reducible refine h.bx fun b w h => ?_)
    | (with_reducible refine h.dw fun w h => ?_)
    | (with_reducible refine h.z0 fun w h => ?_)
    | (with_reducible refine h.z1 fun w h => ?_)
    | (with_reducible refine h.lr_nd (by first | exact JR | exact QF | exact QP | exact QQ | exact QR | exact QT) ?_)
    | (with_reducible refine h.exS ?_)
    | (with_reducible refine Sof.ld_nd (by first | exact JR | exact QF | exact QP | exact QQ | exact QR | exact QT) ?_)
    | (with_reducible refine Sof.ld_ndAt3 h (by first | exact JR | exact QF | exact QP | exact QQ | exact QR | exact QT) (by first | exact JR | exact QF | exact QP | exact QQ | exact QR | exact QT) ?_)
    | (with_reducible refine⟨h.sof0,?_⟩)
    | (with_reducible refine⟨h.sof1,?_⟩)
    | (with_reducible refine h.now fun w h => ?_)
    | (with_reducible refine h.take _ (by decide) _ fun w h => ?_)
    | (with_reducible refine h.must _ (by decide) _ fun w h => ?_)
    | (with_reducible refine(h.k1 (by first | exact JR | exact QF | exact QP | exact QQ | exact QR | exact QT)).node _ _ _ fun w h => ?_)
    | (with_reducible refine(h.k2 (by first | exact JR | exact QF | exact QP | exact QQ | exact QR | exact QT) (by first | exact JR | exact QF | exact QP | exact QQ | exact QR | exact QT)).node _ _ _ fun w h => ?_)
    | (with_reducible refine JE (fun hb => ?_) (fun hb => ?_)<;>first | rw[if_pos hb] at hm | rw[if_neg (ne_true_of_eq_false hb)] at hm | skip)
    | ((with_reducible refine hG.expr.bind h hm fun p s1 x w hm h => ?_);try dsimp only at hm)
    | (with_reducible refine RtN ?_)
  all_goals (first | (cases hm;exact hK _ _ (h.sub (by repeat first | exact List.Sublist.refl _ | apply List.Sublist.cons) (fun q hq=>by rcases List.mem_cons.1 hq with rfl | hq<;>simp only[List.mem_cons,true_or,or_true,hq]))) | exact hK _ _ (h.sub (by repeat first | exact List.Sublist.refl _ | apply List.Sublist.cons) (fun q hq=>by rcases List.mem_cons.1 hq with rfl | hq<;>simp only[List.mem_cons,true_or,or_true,hq])) | skip)
theorem ArV  : NdC e (AE (some ⟨e.bs,0,none⟩)) (Agc e.T (lv num e.T g)):=by
  intro w s A l r n s' K h hm hK
  refine Ab2 _ _ _ ?_
  unfold RL
  unfold Agc at hm
  repeat' first
    | (with_reducible refine h.bx fun b w h => ?_)
    | (with_reducible refine h.z0 fun w h => ?_)
    | (with_reducible refine h.lr_nd (by first | exact JR | exact QF | exact QP | exact QQ | exact QR | exact QT) ?_)
    | (with_reducible refine h.now fun w h => ?_)
    | (with_reducible refine h.take _ (by decide) _ fun w h => ?_)
    | (with_reducible refine(h.k1 (by first | exact JR | exact QF | exact QP | exact QQ | exact QR | exact QT)).node _ _ _ fun w h => ?_)
    | (with_reducible refine JE (fun hb => ?_) (fun hb => ?_)<;>first | rw[if_pos hb] at hm | rw[if_neg (ne_true_of_eq_false hb)] at hm | skip)
    | ((with_reducible refine hG.minus.bind h hm fun p s1 x w hm h => ?_);try dsimp only at hm)
    | (with_reducible refine hG.postfix_ h hm fun x w h => ?_)
    | (with_reducible refine RtN ?_)
  all_goals (first | (cases hm;exact hK _ _ (h.sub (by repeat first | exact List.Sublist.refl _ | apply List.Sublist.cons) (fun q hq=>by rcases List.mem_cons.1 hq with rfl | hq<;>simp only[List.mem_cons,true_or,or_true,hq]))) | exact hK _ _ (h.sub (by repeat first | exact List.Sublist.refl _ | apply List.Sublist.cons) (fun q hq=>by rcases List.mem_cons.1 hq with rfl | hq<;>simp only[List.mem_cons,true_or,or_true,hq])) | skip)
theorem Au7  : NdC e (MN (some ⟨e.bs,0,none⟩)) (AoV e.T (lv num e.T g)):=by
  intro w s A l r n s' K h hm hK
  refine AdA _ _ _ ?_
  unfold Aar
  unfold AoV at hm
  repeat' first
    | (with_reducible refine h.bx fun b w h => ?_)
    | (with_reducible refine h.z0 fun w h => ?_)
    | (with_reducible refine h.lr_nd (by first | exact JR | exact QF | exact QP | exact QQ | exact QR | exact QT) ?_)
    | (with_reducible refine h.now fun w h => ?_)
    | (with_reducible refine h.take _ (by decide) _ fun w h => ?_)
    | (with_reducible refine(h.k1 (by first | exact JR | exact QF | exact QP | exact QQ | exact QR | exact QT)).node _ _ _ fun w h => ?_)
    | (with_reducible refine JE (fun hb => ?_) (fun hb => ?_)<;>first | rw[if_pos hb] at hm | rw[if_neg (ne_true_of_eq_false hb)] at hm | skip)
    | ((with_reducible refine hG.not_.bind h hm fun p s1 x w hm h => ?_);try dsimp only at hm)
    | (with_reducible refine hG.compare h hm fun x w h => ?_)
    | (with_reducible refine RtN ?_)
  all_goals (first | (cases hm;exact hK _ _ (h.sub (by repeat first | exact List.Sublist.refl _ | apply List.Sublist.cons) (fun q hq=>by rcases List.mem_cons.1 hq with rfl | hq<;>simp only[List.mem_cons,true_or,or_true,hq]))) | exact hK _ _ (h.sub (by repeat first | exact List.Sublist.refl _ | apply List.Sublist.cons) (fun q hq=>by rcases List.mem_cons.1 hq with rfl | hq<;>simp only[List.mem_cons,true_or,or_true,hq])) | skip)
theorem As9  : NdC e (QJ (some ⟨e.bs,0,none⟩)) (Akj e.T (lv num e.T g)):=by
  intro w s A l r n s' K h hm hK
  refine Ac8 _ _ _ ?_
  unfold TJ
  unfold Akj at hm
  repeat' first
    | (with_reducible refine h.bx fun b w h => ?_)
    | (with_reducible refine h.dw fun w h => ?_)
    | (with_reducible refine h.z0 fun w h => ?_)
    | (with_reducible refine h.z1 fun w h => ?_)
    | (with_reducible refine h.z2 fun w h => ?_)
    | (with_reducible refine h.ld_nd (by first | exact JR | exact QF | exact QP | exact QQ | exact QR | exact QT) ?_)
    | (with_reducible refine h.lr_nd (by first | exact JR | exact QF | exact QP | exact QQ | exact QR | exact QT) ?_)
    | (with_reducible refine h.exS ?_)
    | (with_reducible refine Sof.ld_nd (by first | exact JR | exact QF | exact QP | exact QQ | exact QR | exact QT) ?_)
    | (with_reducible refine Sof.ld_ndAt3 h (by first | exact JR | exact QF | exact QP | exact QQ | exact QR | exact QT) (by first | exact JR | exact QF | exact QP | exact QQ | exact QR | exact QT) ?_)
    | (with_reducible refine⟨h.sof0,?_⟩)
    | (with_reducible refine⟨h.sof1,?_⟩)
    | (with_reducible refine h.take _ (by decide) _ fun w h => ?_)
    | (with_reducible refine h.must _ (by decide) _ fun w h => ?_)
    | (with_reducible refine(h.k3 (by first | exact JR | exact QF | exact QP | exact QQ | exact QR | exact QT) (by first | exact JR | exact QF | exact QP | exact QQ | exact QR | exact QT) (by first | exact JR | exact QF | exact QP | exact QQ | exact QR | exact QT)).node _ _ _ fun w h => ?_)
    | (with_reducible refine JE (fun hb => ?_) (fun hb => ?_)<;>first | rw[if_pos hb] at hm | rw[if_neg (ne_true_of_eq_false hb)] at hm | skip)
    | ((with_reducible refine hG.expr.bind h hm fun p s1 x w hm h => ?_);try dsimp only at hm)
    | ((with_reducible refine hG.or_.bind h hm fun p s1 x w hm h => ?_);try dsimp only at hm)
    | (with_reducible refine RtN ?_)
  all_goals (first | (cases hm;exact hK _ _ (h.sub (by repeat first | exact List.Sublist.refl _ | apply List.Sublist.cons) (fun q hq=>by rcases List.mem_cons.1 hq with rfl | hq<;>simp only[List.mem_cons,true_or,or_true,hq]))) | exact hK _ _ (h.sub (by repeat first | exact List.Sublist.refl _ | apply List.Sublist.cons) (fun q hq=>by rcases List.mem_cons.1 hq with rfl | hq<;>simp only[List.mem_cons,true_or,or_true,hq])) | skip)
theorem ArC  : NdC e (XB (some ⟨e.bs,0,none⟩)) (Af0 e.T (lv num e.T g)):=by
  intro w s A l r n s' K h hm hK
  refine AbZ _ _ _ ?_
  unfold RI
  unfold Af0 at hm
  repeat' first
    | (with_reducible refine h.bx fun b w h => ?_)
    | (with_reducible refine h.dw fun w h => ?_)
    | (with_reducible refine h.z0 fun w h => ?_)
    | (with_reducible refine h.z1 fun w h => ?_)
    | (with_reducible refine h.ld_nd (by first | exact JR | exact QF | exact QP | exact QQ | exact QR | exact QT) ?_)
    | (with_reducible refine h.lr_nd (by first | exact JR | exact QF | exact QP | exact QQ | exact QR | exact QT) ?_)
    | (with_reducible refine h.exS ?_)
    | (with_reducible refine Sof.ld_nd (by first | exact JR | exact QF | exact QP | exact QQ | exact QR | exact QT) ?_)
    | (with_reducible refine Sof.ld_ndAt3 h (by first | exact JR | exact QF | exact QP | exact QQ | exact QR | exact QT) (by first | exact JR | exact QF | exact QP | exact QQ | exact QR | exact QT) ?_)
    | (with_reducible refine⟨h.sof0,?_⟩)
    | (with_reducible refine⟨h.sof1,?_⟩)
    | (with_reducible refine h.sign _ fun w h => ?_)
    | (with_reducible refine h.node _ _ _ fun w h => ?_)
    | (with_reducible refine JE (fun hb => ?_) (fun hb => ?_)<;>first | rw[if_pos hb] at hm | rw[if_neg (ne_true_of_eq_false hb)] at hm | skip)
    | ((with_reducible refine hG.expr.bind h hm fun p s1 x w hm h => ?_);try dsimp only at hm)
    | ((with_reducible refine hG.more.bind (h.k1 (by first | exact JR | exact QF | exact QP | exact QQ | exact QR | exact QT)) (by simp only[List.length_cons,List.length_nil,List.length_append]<;>omega) hm fun sl ns s1 w hm hl h => ?_);try dsimp only at hm)
    | (with_reducible refine RtN ?_)
  all_goals (first | (cases hm;exact hK _ _ (h.sub (by repeat first | exact List.Sublist.refl _ | apply List.Sublist.cons) (fun q hq=>by rcases List.mem_cons.1 hq with rfl | hq<;>simp only[List.mem_cons,true_or,or_true,hq]))) | exact hK _ _ (h.sub (by repeat first | exact List.Sublist.refl _ | apply List.Sublist.cons) (fun q hq=>by rcases List.mem_cons.1 hq with rfl | hq<;>simp only[List.mem_cons,true_or,or_true,hq])) | skip)
theorem AoG  : NdC e (EO (some ⟨e.bs,0,none⟩)) (WC e.T (lv num e.T g)):=by
  intro w s A l r n s' K h hm hK
  refine AaM _ _ _ ?_
  unfold LY
  unfold WC at hm
  repeat' first
    | (with_reducible refine h.bx fun b w h => ?_)
    | (with_reducible refine h.dw fun w h => ?_)
    | (with_reducible refine h.z0 fun w h => ?_)
    | (with_reducible refine h.z1 fun w h => ?_)
    | (with_reducible refine h.ld_nd (by first | exact JR | exact QF | exact QP | exact QQ | exact QR | exact QT) ?_)
    | (with_reducible refine h.lr_nd (by first | exact JR | exact QF | exact QP | exact QQ | exact QR | exact QT) ?_)
    | (with_reducible refine h.exS ?_)
    | (with_reducible refine Sof.ld_nd (by first | exact JR | exact QF | exact QP | exact QQ | exact QR | exact QT) ?_)
    | (with_reducible refine Sof.ld_ndAt3 h (by first | exact JR | exact QF | exact QP | exact QQ | exact QR | exact QT) (by first | exact JR | exact QF | exact QP | exact QQ | exact QR | exact QT) ?_)
    | (with_reducible refine⟨h.sof0,?_⟩)
    | (with_reducible refine⟨h.sof1,?_⟩)
    | (with_reducible refine h.take _ (by decide) _ fun w h => ?_)
    | (with_reducible refine h.must _ (by decide) _ fun w h => ?_)
    | (with_reducible refine(h.k2 (by first | exact JR | exact QF | exact QP | exact QQ | exact QR | exact QT) (by first | exact JR | exact QF | exact QP | exact QQ | exact QR | exact QT)).node _ _ _ fun w h => ?_)
    | (with_reducible refine JE (fun hb => ?_) (fun hb => ?_)<;>first | rw[if_pos hb] at hm | rw[if_neg (ne_true_of_eq_false hb)] at hm | skip)
    | ((with_reducible refine hG.row5.bind h hm fun p s1 x w hm h => ?_);try dsimp only at hm)
    | (unfold VI)
    | (unfold SH at hm)
    | (refine h.one (ts:=Ag2) rfl rfl (by decide) fun w h => ?_)
    | (refine h.inc (Ajx hb) fun w h => ?_)
    | (with_reducible refine RtN ?_)
  all_goals (first | (cases hm;exact hK _ _ (h.sub (by repeat first | exact List.Sublist.refl _ | apply List.Sublist.cons) (fun q hq=>by rcases List.mem_cons.1 hq with rfl | hq<;>simp only[List.mem_cons,true_or,or_true,hq]))) | exact hK _ _ (h.sub (by repeat first | exact List.Sublist.refl _ | apply List.Sublist.cons) (fun q hq=>by rcases List.mem_cons.1 hq with rfl | hq<;>simp only[List.mem_cons,true_or,or_true,hq])) | skip)
theorem Aqg(a:Int):NdC e (MI (some ⟨e.bs,0,none⟩) a) (Acm e.T (lv num e.T g) a):=by
  intro w s A l r n s' K h hm hK
  refine Abc _ _ _ _ ?_
  unfold PD
  unfold Acm at hm
  repeat' first
    | (with_reducible refine h.bx fun b w h => ?_)
    | (with_reducible refine h.z0 fun w h => ?_)
    | (with_reducible refine h.z3 fun w h => ?_)
    | (with_reducible refine h.z4 fun w h => ?_)
    | (with_reducible refine h.s0 fun w h => ?_)
    | (with_reducible refine h.s1 fun w h => ?_)
    | (with_reducible refine h.ld_nd (by first | exact JR | exact QF | exact QP | exact QQ | exact QR | exact QT) ?_)
    | (with_reducible refine h.lr_nd (by first | exact JR | exact QF | exact QP | exact QQ | exact QR | exact QT) ?_)
    | (with_reducible refine h.now fun w h => ?_)
    | (with_reducible refine h.take _ (by decide) _ fun w h => ?_)
    | (with_reducible refine h.nothing _ fun w h => ?_)
    | (with_reducible refine(h.k1 (by first | exact JR | exact QF | exact QP | exact QQ | exact QR | exact QT)).node _ _ _ fun w h => ?_)
    | (with_reducible refine(h.k3 (by first | exact JR | exact QF | exact QP | exact QQ | exact QR | exact QT) (by first | exact JR | exact QF | exact QP | exact QQ | exact QR | exact QT) (by first | exact JR | exact QF | exact QP | exact QQ | exact QR | exact QT)).node _ _ _ fun w h => ?_)
    | (with_reducible refine JE (fun hb => ?_) (fun hb => ?_)<;>first | rw[if_pos hb] at hm | rw[if_neg (ne_true_of_eq_false hb)] at hm | skip)
    | ((with_reducible refine hG.expr.bind h hm fun p s1 x w hm h => ?_);try dsimp only at hm)
    | ((with_reducible refine hG.block.bind h hm fun p s1 x w hm h => ?_);try dsimp only at hm)
    | ((with_reducible refine(hG.choice _).bind h hm fun p s1 x w hm h => ?_);try dsimp only at hm)
    | (unfold MP)
    | (with_reducible refine RtN ?_)
  all_goals (first | (cases hm;exact hK _ _ (h.sub (by repeat first | exact List.Sublist.refl _ | apply List.Sublist.cons) (fun q hq=>by rcases List.mem_cons.1 hq with rfl | hq<;>simp only[List.mem_cons,true_or,or_true,hq]))) | exact hK _ _ (h.sub (by repeat first | exact List.Sublist.refl _ | apply List.Sublist.cons) (fun q hq=>by rcases List.mem_cons.1 hq with rfl | hq<;>simp only[List.mem_cons,true_or,or_true,hq])) | skip)
theorem AtZ  : NdC e (DY (some ⟨e.bs,0,none⟩)) (Ak9 e.T (lv num e.T g)):=by
  intro w s A l r n s' K h hm hK
  refine Adf _ _ _ ?_
  unfold TP
  unfold Ak9 at hm
  repeat' first
    | (with_reducible refine h.bx fun b w h => ?_)
    | (with_reducible refine h.dw fun w h => ?_)
    | (with_reducible refine h.z0 fun w h => ?_)
    | (with_reducible refine h.z1 fun w h => ?_)
    | (with_reducible refine h.z2 fun w h => ?_)
    | (with_reducible refine h.s0 fun w h => ?_)
    | (with_reducible refine h.ld_nd (by first | exact JR | exact QF | exact QP | exact QQ | exact QR | exact QT) ?_)
    | (with_reducible refine h.lr_nd (by first | exact JR | exact QF | exact QP | exact QQ | exact QR | exact QT) ?_)
    | (with_reducible refine h.exS ?_)
    | (with_reducible refine Sof.ld_nd (by first | exact JR | exact QF | exact QP | exact QQ | exact QR | exact QT) ?_)
    | (with_reducible refine⟨h.sof0,?_⟩)
    | (with_reducible refine⟨h.sof1,?_⟩)
    | (with_reducible refine h.now fun w h => ?_)
    | (with_reducible refine h.word _ fun w h => ?_)
    | (with_reducible refine h.take _ (by decide) _ fun w h => ?_)
    | (with_reducible refine h.must _ (by decide) _ fun w h => ?_)
    | (with_reducible refine h.mustKind _ (by decide) fun w h => ?_)
    | (with_reducible refine h.wrong fun w h => ?_)
    | (with_reducible refine h.name E fun w h => ?_)
    | (with_reducible refine h.node _ _ _ fun w h => ?_)
    | (with_reducible refine h.nothing _ fun w h => ?_)
    | (with_reducible refine(h.k2 (by first | exact JR | exact QF | exact QP | exact QQ | exact QR | exact QT) (by first | exact JR | exact QF | exact QP | exact QQ | exact QR | exact QT)).node _ _ _ fun w h => ?_)
    | (with_reducible refine(h.k3 (by first | exact JR | exact QF | exact QP | exact QQ | exact QR | exact QT) (by first | exact JR | exact QF | exact QP | exact QQ | exact QR | exact QT) (by first | exact JR | exact QF | exact QP | exact QQ | exact QR | exact QT)).node _ _ _ fun w h => ?_)
    | (with_reducible refine h.push (by first | exact JR | exact QF | exact QP | exact QQ | exact QR | exact QT) (by first | omega | (simp only[List.length_cons,List.length_nil,List.length_append]<;>omega)) fun sl w h => ?_)
    | (with_reducible refine JE (fun hb => ?_) (fun hb => ?_)<;>first | rw[if_pos hb] at hm | rw[if_neg (ne_true_of_eq_false hb)] at hm | skip)
    | ((with_reducible refine hG.expr.bind h hm fun p s1 x w hm h => ?_);try dsimp only at hm)
    | ((with_reducible refine hG.exprs.bind h hm fun p s1 x w hm h => ?_);try dsimp only at hm)
    | ((with_reducible refine hG.targets.bind h hm fun p s1 x w hm h => ?_);try dsimp only at hm)
    | ((with_reducible refine hG.simple.bind h hm fun p s1 x w hm h => ?_);try dsimp only at hm)
    | ((with_reducible refine hG.block.bind h hm fun p s1 x w hm h => ?_);try dsimp only at hm)
    | (with_reducible refine(hG.choice _) h hm fun x w h => ?_)
    | ((with_reducible refine hG.caught.bind (h.k1 (by first | exact JR | exact QF | exact QP | exact QQ | exact QR | exact QT)) (by simp only[List.length_cons,List.length_nil,List.length_append]<;>omega) hm fun sl ns s1 w hm hl h => ?_);try dsimp only at hm)
    | ((with_reducible refine hG.params.bind h (by omega) hm fun sl ns s1 w hm hl h => ?_);try dsimp only at hm)
    | (unfold OF)
    | (unfold OG)
    | (with_reducible refine RtN ?_)
  all_goals (first | (cases hm;exact hK _ _ (h.sub (by repeat first | exact List.Sublist.refl _ | apply List.Sublist.cons) (fun q hq=>by rcases List.mem_cons.1 hq with rfl | hq<;>simp only[List.mem_cons,true_or,or_true,hq]))) | exact hK _ _ (h.sub (by repeat first | exact List.Sublist.refl _ | apply List.Sublist.cons) (fun q hq=>by rcases List.mem_cons.1 hq with rfl | hq<;>simp only[List.mem_cons,true_or,or_true,hq])) | skip)
end
end Go.Proofs.YtjiagmjfnbljjaaGreatDoor
end
section
namespace Go.Proofs.YtjiagmjfnbljjaaGreatDoor
open Go
set_option maxHeartbeats 4000000
set_option linter.unusedVariables false
set_option linter.unusedSimpArgs false
set_option linter.unusedSectionVars false
section
variable{e:Pe}{w:World}{s:PS}{A:Acc}{l:List En}{r:Rp}
theorem Zp.get{r:Rp}{n:Nd}:∀ {ns:List Nd} {xs:List JA} {i:Nat},Zp r ns xs→ns[i]? = some n→∃ x,xs[i]? = some x∧(n,x)∈r
  | n0 :: ns,x :: xs,0,hz,hi=>by
    simp only[List.getElem?_cons_zero,Option.some.injEq] at hi
    subst hi;exact⟨x,rfl,hz.1⟩
  | n0 :: ns,x :: xs,i+1,hz,hi=>by simpa using Zp.get hz.2 (i:=i) (by simpa using hi)
  | [],_,i,_,hi=>by simp at hi
  | _ :: _,[],_,hz,_=>hz.elim
theorem PM.accEl{sl:Sl}{ns:List Nd}{n:Nd}{i:Nat}(h:PM e w s ((sl,ns) :: A) l r)(hi:ns[i]? = some n):∃ (a:Addr) (x:JA),sl.a=some a∧i<sl.n∧JD w (a.add (i * 6)) x.cells.toList∧PM e w s ((sl,ns) :: A) l ((n,x) :: r):=by
  obtain⟨⟨xss,r1,hz,hm⟩,hb⟩:=h
  cases xss with
  | nil=>exact hz.elim
  | cons xs xss=>
    obtain⟨⟨hz1,hlen⟩,hz2⟩:=hz
    obtain⟨x,hx,hr⟩:=hz1.get hi
    have hlt:=(List.getElem?_eq_some_iff.1 hx).1
    have hown:Own w e.w0.heap.size 27 6 sl (VM xs):=hm.ok (e:=An6 sl xs) (by simp[AcB])
    replace hlen:sl.n=xs.length:=hlen
    have hc:=hown.cells
    cases ha:sl.a with
    | none=>have:=(hc.1 ha).1;omega
    | some a=>
      refine⟨a,x,rfl,by omega,fun j v hj => ?_,⟨xs :: xss,r1,⟨⟨hz1,hlen⟩,hz2⟩,XP.sub hm fun q hq => ?_⟩,hb⟩
      · have hj6:j<6:=(List.getElem?_eq_some_iff.1 hj).1
        rw[II]
        refine hc.2 a ha (i * 6+j) v ?_
        rw[Aqp hx hj6];exact hj
      · rcases List.mem_append.1 hq with hq | hq
        · exact List.mem_append_left _ hq
        · rcases List.mem_cons.1 hq with rfl | hq
          · exact List.mem_append_left _ hr
          · exact List.mem_append_right _ hq
theorem PM.accLen{sl:Sl}{ns:List Nd}(h:PM e w s ((sl,ns) :: A) l r):sl.n=ns.length:=by
  obtain⟨⟨xss,r1,hz,hm⟩,hb⟩:=h
  cases xss with
  | nil=>exact hz.elim
  | cons xs xss=>rw[hz.1.2,hz.1.1.length]
theorem PM.accNd{sl:Sl}{ns:List Nd}{n:Nd}{i:Nat}{K:JA→World→Prop}(h:PM e w s ((sl,ns) :: A) l r)(hi:ns[i]? = some n)(c:∀ x,PM e w s ((sl,ns) :: A) l ((n,x) :: r)→K x w):nn sl.a fun a=>0≤(i:Int)∧(i:Int)<((sl.n:Nat):Int)∧JF (a.add ((i:Int).toNat * 6)) K w:=by
  obtain⟨a,x,ha,hlt,hc,h'⟩:=h.accEl hi
  exact JM ha ⟨by omega,by omega,QV hc (c x h')⟩
theorem PM.accAt{sl:Sl}{ns:List Nd}{n:Nd}{i:Nat}{K:Int→World→Prop}(h:PM e w s ((sl,ns) :: A) l r)(hi:ns[i]? = some n)(c:K n.at_ w):nn sl.a fun a=>0≤(i:Int)∧(i:Int)<((sl.n:Nat):Int)∧JK ((a.add ((i:Int).toNat * 6)).add 1) K w:=by
  obtain⟨a,x,ha,hlt,hc,h'⟩:=h.accEl hi
  refine JM ha ⟨by omega,by omega,JO (hc 1 _ rfl) ?_⟩
  rw[h'.at_ JR];exact c
theorem PM.accNd0{sl:Sl}{ns:List Nd}{n:Nd}{K:JA→World→Prop}(h:PM e w s ((sl,n :: ns) :: A) l r)(c:∀ x,PM e w s ((sl,n :: ns) :: A) l ((n,x) :: r)→K x w):nn sl.a fun a=>0≤(0:Int)∧(0:Int)<((sl.n:Nat):Int)∧JF a K w:=h.accNd (i:=0) rfl c
theorem PM.accAt0{sl:Sl}{ns:List Nd}{n:Nd}{K:Int→World→Prop}(h:PM e w s ((sl,n :: ns) :: A) l r)(c:K n.at_ w):nn sl.a fun a=>0≤(0:Int)∧(0:Int)<((sl.n:Nat):Int)∧JK (a.add 1) K w:=h.accAt (i:=0) rfl c
end
section
variable{e:Pe}{num:ByteArray→(Bool×List Int)×Bool}(E:AgW e num){f:Nat}(hT:∀ g,g<f→TZ e num g)(hf:4 * f+8≤2147483648)
include E hT hf
theorem Atn:LsC e (4 * f) (GH (some ⟨e.bs,0,none⟩)) (lv num e.T f).more:=by
  intro w s A l r sl ns ns' s' K h hl hm hK
  refine Ada _ _ _ _ ?_
  unfold TL
  refine YE (fun n x w'=>∃ s1 ns1,PM e w' s1 ((x,ns1) :: A) l r∧ns1.length+4 * n≤2147483648∧n≤f∧(lv num e.T n).more ns1 s1=some (ns',s')) f sl rfl ⟨s,ns,h,hl,Nat.le_refl _,hm⟩ ?_
  clear h hl hm s ns sl w
  rintro n x w ⟨s,ns,h,hl,hn,hm⟩ again hag
  cases n with
  | zero=>cases hm
  | succ g=>
    have hG:=hT g (by omega)
    have hg:4 * g+4≤2147483648:=by omega
    replace hm:AkC num e.T (lv num e.T g) ns s=some (ns',s'):=hm
    unfold AkC at hm
    repeat' first
      | (with_reducible refine h.bx fun b w h => ?_)
      | (with_reducible refine h.take _ (by decide) _ fun w h => ?_)
      | (with_reducible refine h.begins E fun w h => ?_)
      | (with_reducible refine h.push (by first | exact JR | exact QF | exact QP | exact QQ | exact QR | exact QT) (by first | omega | (simp only[List.length_cons,List.length_nil,List.length_append]<;>omega)) fun sl w h => ?_)
      | (with_reducible refine JE (fun hb => ?_) (fun hb => ?_)<;>first | rw[if_pos hb] at hm | rw[if_neg (ne_true_of_eq_false hb)] at hm | skip)
      | ((with_reducible refine hG.expr.bind h hm fun p s1 x w hm h => ?_);try dsimp only at hm)
      | (exact hag g _ _ (Nat.lt_succ_self _) ⟨_,_,h.sub (List.Sublist.refl _) (fun q hq=>by simp only[List.mem_cons,hq,or_true]),(by simp only[List.length_append,List.length_cons,List.length_nil];omega),(by omega),hm⟩)
      | (with_reducible refine RtS ?_)
    all_goals (cases hm;exact hK _ _ (by omega) h)
theorem ArK:LsC e (4 * f) (VL (some ⟨e.bs,0,none⟩)) (lv num e.T f).items:=by
  intro w s A l r sl ns ns' s' K h hl hm hK
  refine Ab1 _ _ _ _ ?_
  unfold RK
  refine YE (fun n x w'=>∃ s1 ns1,PM e w' s1 ((x,ns1) :: A) l r∧ns1.length+4 * n≤2147483648∧n≤f∧(lv num e.T n).items ns1 s1=some (ns',s')) f sl rfl ⟨s,ns,h,hl,Nat.le_refl _,hm⟩ ?_
  clear h hl hm s ns sl w
  rintro n x w ⟨s,ns,h,hl,hn,hm⟩ again hag
  cases n with
  | zero=>cases hm
  | succ g=>
    have hG:=hT g (by omega)
    have hg:4 * g+4≤2147483648:=by omega
    replace hm:Af6 num e.T (lv num e.T g) ns s=some (ns',s'):=hm
    unfold Af6 at hm
    unfold BE
    refine h.take _ (by decide) _ fun w h=>JE (fun hb => ?_) (fun hb => ?_)
    · rw[if_pos hb] at hm
      refine h.begins E fun w h=>JE (fun hb1 => ?_) (fun hb1 => ?_)
      · refine h.sign _ fun w h=>JE (fun hb2 => ?_) (fun hb2 => ?_)
        · rw[if_pos (by rw[hb1,hb2];rfl)] at hm
          cases hm
          exact RtS (hK _ _ (by omega) h)
        · rw[if_neg (by rw[hb2];simp)] at hm
          repeat' first
            | (with_reducible refine h.bx fun b w h => ?_)
            | (with_reducible refine h.push (by first | exact JR | exact QF | exact QP | exact QQ | exact QR | exact QT) (by first | omega | (simp only[List.length_cons,List.length_nil,List.length_append]<;>omega)) fun sl w h => ?_)
            | ((with_reducible refine hG.item.bind h hm fun p s1 x w hm h => ?_);try dsimp only at hm)
            | (exact hag g _ _ (Nat.lt_succ_self _) ⟨_,_,h.sub (List.Sublist.refl _) (fun q hq=>by simp only[List.mem_cons,hq,or_true]),(by simp only[List.length_append,List.length_cons,List.length_nil];omega),(by omega),hm⟩)
      · rw[if_neg (by rw[hb1];simp)] at hm
        repeat' first
          | (with_reducible refine h.bx fun b w h => ?_)
          | (with_reducible refine h.push (by first | exact JR | exact QF | exact QP | exact QQ | exact QR | exact QT) (by first | omega | (simp only[List.length_cons,List.length_nil,List.length_append]<;>omega)) fun sl w h => ?_)
          | ((with_reducible refine hG.item.bind h hm fun p s1 x w hm h => ?_);try dsimp only at hm)
          | (exact hag g _ _ (Nat.lt_succ_self _) ⟨_,_,h.sub (List.Sublist.refl _) (fun q hq=>by simp only[List.mem_cons,hq,or_true]),(by simp only[List.length_append,List.length_cons,List.length_nil];omega),(by omega),hm⟩)
    · rw[if_neg (ne_true_of_eq_false hb)] at hm
      cases hm
      exact RtS (hK _ _ (by omega) h)
theorem As4:LsC e (4 * f) (VB (some ⟨e.bs,0,none⟩)) (lv num e.T f).comp:=by
  intro w s A l r sl ns ns' s' K h hl hm hK
  refine Ac7 _ _ _ _ ?_
  unfold TI
  cases f with
  | zero=>cases hm
  | succ f=>
    have hG:=hT f (by omega)
    have hg:4 * f+4≤2147483648:=by omega
    replace hm:Akb e.T (lv num e.T f) ns s=some (ns',s'):=hm
    unfold Akb at hm
    repeat' first
      | (with_reducible refine h.bx fun b w h => ?_)
      | (with_reducible refine h.must _ (by decide) _ fun w h => ?_)
      | (with_reducible refine h.push (by first | exact JR | exact QF | exact QP | exact QQ | exact QR | exact QT) (by first | omega | (simp only[List.length_cons,List.length_nil,List.length_append]<;>omega)) fun sl w h => ?_)
      | ((with_reducible refine hG.or_.bind h hm fun p s1 x w hm h => ?_);try dsimp only at hm)
      | ((with_reducible refine hG.targets.bind h hm fun p s1 x w hm h => ?_);try dsimp only at hm)
    rename_i x9 w9
    refine YE (fun n x w'=>∃ s1 ns1,PM e w' s1 ((x,ns1) :: A) l r∧ns1.length+4 * n≤2147483648∧n≤f∧(lv num e.T n).compL ns1 s1=some (ns',s')) f _ rfl ⟨_,_,h.sub (List.Sublist.refl _) (fun q hq=>by simp only[List.mem_cons,hq,or_true]),(by simp only[List.length_append,List.length_cons,List.length_nil];omega),Nat.le_refl _,hm⟩ ?_
    clear h hl hm
    rintro n x w ⟨s,ns,h,hl,hn,hm⟩ again hag
    cases n with
    | zero=>cases hm
    | succ g=>
      have hG:=hT g (by omega)
      have hg:4 * g+4≤2147483648:=by omega
      replace hm:AfY e.T (lv num e.T g) ns s=some (ns',s'):=hm
      unfold AfY at hm
      repeat' first
        | (with_reducible refine h.bx fun b w h => ?_)
        | (with_reducible refine h.take _ (by decide) _ fun w h => ?_)
        | (with_reducible refine h.push (by first | exact JR | exact QF | exact QP | exact QQ | exact QR | exact QT) (by first | omega | (simp only[List.length_cons,List.length_nil,List.length_append]<;>omega)) fun sl w h => ?_)
        | (with_reducible refine JE (fun hb => ?_) (fun hb => ?_)<;>first | rw[if_pos hb] at hm | rw[if_neg (ne_true_of_eq_false hb)] at hm | skip)
        | ((with_reducible refine hG.or_.bind h hm fun p s1 x w hm h => ?_);try dsimp only at hm)
        | (exact hag g _ _ (Nat.lt_succ_self _) ⟨_,_,h.sub (List.Sublist.refl _) (fun q hq=>by simp only[List.mem_cons,hq,or_true]),(by simp only[List.length_append,List.length_cons,List.length_nil];omega),(by omega),hm⟩)
        | (with_reducible refine RtS ?_)
      all_goals (cases hm;exact hK _ _ (by omega) h)
theorem ArY:NlC e (4 * f) (AF (some ⟨e.bs,0,none⟩)) ((lv num e.T f).names []):=by
  intro w s A l r ns' s' K h hl hm hK
  refine Ab3 _ _ _ ?_
  unfold RM
  refine YE (fun n x w'=>∃ s1 ns1,PM e w' s1 ((x,ns1) :: A) l r∧ns1.length+4 * n≤2147483648∧n≤f∧(lv num e.T n).names ns1 s1=some (ns',s')) f ⟨none,0,0⟩ rfl ⟨s,[],h.acc0,by simpa using hl,Nat.le_refl _,hm⟩ ?_
  clear h hl hm s w
  rintro n x w ⟨s,ns,h,hl,hn,hm⟩ again hag
  cases n with
  | zero=>cases hm
  | succ g=>
    have hG:=hT g (by omega)
    have hg:4 * g+4≤2147483648:=by omega
    replace hm:Agd e.T (lv num e.T g) ns s=some (ns',s'):=hm
    unfold Agd at hm
    repeat' first
      | (with_reducible refine h.bx fun b w h => ?_)
      | (with_reducible refine h.now fun w h => ?_)
      | (with_reducible refine h.take _ (by decide) _ fun w h => ?_)
      | (with_reducible refine h.name E fun w h => ?_)
      | (with_reducible refine h.node0 _ _ _ fun w h => ?_)
      | (with_reducible refine h.push (by first | exact JR | exact QF | exact QP | exact QQ | exact QR | exact QT) (by first | omega | (simp only[List.length_cons,List.length_nil,List.length_append]<;>omega)) fun sl w h => ?_)
      | (with_reducible refine JE (fun hb => ?_) (fun hb => ?_)<;>first | rw[if_pos hb] at hm | rw[if_neg (ne_true_of_eq_false hb)] at hm | skip)
      | (exact hag g _ _ (Nat.lt_succ_self _) ⟨_,_,h.sub (List.Sublist.refl _) (fun q hq=>by simp only[List.mem_cons,hq,or_true]),(by simp only[List.length_append,List.length_cons,List.length_nil];omega),(by omega),hm⟩)
      | (with_reducible refine RtS ?_)
    all_goals (cases hm;exact hK _ _ (by simp only[List.length_append,List.length_cons,List.length_nil];omega) (h.sub (List.Sublist.refl _) (fun q hq=>by simp only[List.mem_cons,hq,or_true])))
end
end Go.Proofs.YtjiagmjfnbljjaaGreatDoor
end
section
namespace Go.Proofs.YtjiagmjfnbljjaaGreatDoor
open Go
set_option maxHeartbeats 4000000
set_option linter.unusedVariables false
set_option linter.unusedSimpArgs false
set_option linter.unusedSectionVars false
section
variable{e:Pe}{num:ByteArray→(Bool×List Int)×Bool}(E:AgW e num){f:Nat}(hT:∀ g,g<f→TZ e num g)(hf:4 * f+8≤2147483648)
include E hT hf
theorem Auq:NdC e (EZ (some ⟨e.bs,0,none⟩)) (lv num e.T f).and_:=by
  intro w s A l r n' s' K h hm hK
  refine Ady _ _ _ ?_
  unfold Aap
  cases f with
  | zero=>cases hm
  | succ f=>
    have hG:=hT f (by omega)
    have hg:4 * f+4≤2147483648:=by omega
    replace hm:AoB (lv num e.T f) s=some (n',s'):=hm
    unfold AoB at hm
    refine h.bx fun b1 w h=>hG.not_.bind h hm fun p s1 x w hm h=>h.bx fun b3 w h=>h.z0 fun w h => ?_
    refine YE (fun n u w'=>∃ s1 q x,(lv num e.T n).andL q s1=some (n',s')∧n≤f∧PM e w' s1 A (ndE b3 x :: zNd b1 :: l) ((q,x) :: r)) f () rfl ⟨_,_,_,hm,Nat.le_refl _,h⟩ ?_
    clear h hm hG hg
    rintro n u w ⟨s1,q,x,hm,hn,h⟩ again hag
    cases n with
    | zero=>cases hm
    | succ g=>
      have hG:=hT g (by omega)
      have hg:4 * g+4≤2147483648:=by omega
      replace hm:Aj4 e.T (lv num e.T g) q s1=some (n',s'):=hm
      unfold Aj4 at hm
      repeat' first
        | (with_reducible refine h.bx fun b w h => ?_)
        | (with_reducible refine h.dw fun w h => ?_)
        | (with_reducible refine h.z1 fun w h => ?_)
        | (with_reducible refine h.s0 fun w h => ?_)
        | (with_reducible refine h.ld_nd (by first | exact JR | exact QF | exact QP | exact QQ | exact QR | exact QT) ?_)
        | (with_reducible refine h.lr_nd (by first | exact JR | exact QF | exact QP | exact QQ | exact QR | exact QT) ?_)
        | (with_reducible refine h.exS ?_)
        | (with_reducible refine Sof.ld_nd (by first | exact JR | exact QF | exact QP | exact QQ | exact QR | exact QT) ?_)
        | (with_reducible refine Sof.ld_ndAt3 h (by first | exact JR | exact QF | exact QP | exact QQ | exact QR | exact QT) (by first | exact JR | exact QF | exact QP | exact QQ | exact QR | exact QT) ?_)
        | (with_reducible refine⟨h.sof0,?_⟩)
        | (with_reducible refine⟨h.sof1,?_⟩)
        | (with_reducible refine h.take _ (by decide) _ fun w h => ?_)
        | (with_reducible refine(h.k2 (by first | exact JR | exact QF | exact QP | exact QQ | exact QR | exact QT) (by first | exact JR | exact QF | exact QP | exact QQ | exact QR | exact QT)).node _ _ _ fun w h => ?_)
        | (with_reducible refine JE (fun hb => ?_) (fun hb => ?_)<;>first | rw[if_pos hb] at hm | rw[if_neg (ne_true_of_eq_false hb)] at hm | skip)
        | ((with_reducible refine hG.not_.bind h hm fun p s1 x w hm h => ?_);try dsimp only at hm)
        | (exact hag g () _ (Nat.lt_succ_self _) ⟨_,_,_,hm,(by omega),h.sub (by repeat first | exact List.Sublist.refl _ | apply List.Sublist.cons) (fun q hq=>by rcases List.mem_cons.1 hq with rfl | hq<;>simp only[List.mem_cons,true_or,or_true,hq])⟩)
        | (with_reducible refine RtN ?_)
      all_goals (first | (cases hm;exact hK _ _ (h.sub (by repeat first | exact List.Sublist.refl _ | apply List.Sublist.cons) (fun q hq=>by rcases List.mem_cons.1 hq with rfl | hq<;>simp only[List.mem_cons,true_or,or_true,hq]))) | exact hK _ _ (h.sub (by repeat first | exact List.Sublist.refl _ | apply List.Sublist.cons) (fun q hq=>by rcases List.mem_cons.1 hq with rfl | hq<;>simp only[List.mem_cons,true_or,or_true,hq])) | skip)
theorem AvM:NdC e (DX (some ⟨e.bs,0,none⟩)) (lv num e.T f).or_:=by
  intro w s A l r n' s' K h hm hK
  refine Ae1 _ _ _ ?_
  unfold Abm
  cases f with
  | zero=>cases hm
  | succ f=>
    have hG:=hT f (by omega)
    have hg:4 * f+4≤2147483648:=by omega
    replace hm:orF (lv num e.T f) s=some (n',s'):=hm
    unfold orF at hm
    refine h.bx fun b1 w h=>hG.and_.bind h hm fun p s1 x w hm h=>h.bx fun b3 w h=>h.z0 fun w h => ?_
    refine YE (fun n u w'=>∃ s1 q x,(lv num e.T n).orL q s1=some (n',s')∧n≤f∧PM e w' s1 A (ndE b3 x :: zNd b1 :: l) ((q,x) :: r)) f () rfl ⟨_,_,_,hm,Nat.le_refl _,h⟩ ?_
    clear h hm hG hg
    rintro n u w ⟨s1,q,x,hm,hn,h⟩ again hag
    cases n with
    | zero=>cases hm
    | succ g=>
      have hG:=hT g (by omega)
      have hg:4 * g+4≤2147483648:=by omega
      replace hm:AoX e.T (lv num e.T g) q s1=some (n',s'):=hm
      unfold AoX at hm
      repeat' first
        | (with_reducible refine h.bx fun b w h => ?_)
        | (with_reducible refine h.dw fun w h => ?_)
        | (with_reducible refine h.z1 fun w h => ?_)
        | (with_reducible refine h.s0 fun w h => ?_)
        | (with_reducible refine h.ld_nd (by first | exact JR | exact QF | exact QP | exact QQ | exact QR | exact QT) ?_)
        | (with_reducible refine h.lr_nd (by first | exact JR | exact QF | exact QP | exact QQ | exact QR | exact QT) ?_)
        | (with_reducible refine h.exS ?_)
        | (with_reducible refine Sof.ld_nd (by first | exact JR | exact QF | exact QP | exact QQ | exact QR | exact QT) ?_)
        | (with_reducible refine Sof.ld_ndAt3 h (by first | exact JR | exact QF | exact QP | exact QQ | exact QR | exact QT) (by first | exact JR | exact QF | exact QP | exact QQ | exact QR | exact QT) ?_)
        | (with_reducible refine⟨h.sof0,?_⟩)
        | (with_reducible refine⟨h.sof1,?_⟩)
        | (with_reducible refine h.take _ (by decide) _ fun w h => ?_)
        | (with_reducible refine(h.k2 (by first | exact JR | exact QF | exact QP | exact QQ | exact QR | exact QT) (by first | exact JR | exact QF | exact QP | exact QQ | exact QR | exact QT)).node _ _ _ fun w h => ?_)
        | (with_reducible refine JE (fun hb => ?_) (fun hb => ?_)<;>first | rw[if_pos hb] at hm | rw[if_neg (ne_true_of_eq_false hb)] at hm | skip)
        | ((with_reducible refine hG.and_.bind h hm fun p s1 x w hm h => ?_);try dsimp only at hm)
        | (exact hag g () _ (Nat.lt_succ_self _) ⟨_,_,_,hm,(by omega),h.sub (by repeat first | exact List.Sublist.refl _ | apply List.Sublist.cons) (fun q hq=>by rcases List.mem_cons.1 hq with rfl | hq<;>simp only[List.mem_cons,true_or,or_true,hq])⟩)
        | (with_reducible refine RtN ?_)
      all_goals (first | (cases hm;exact hK _ _ (h.sub (by repeat first | exact List.Sublist.refl _ | apply List.Sublist.cons) (fun q hq=>by rcases List.mem_cons.1 hq with rfl | hq<;>simp only[List.mem_cons,true_or,or_true,hq]))) | exact hK _ _ (h.sub (by repeat first | exact List.Sublist.refl _ | apply List.Sublist.cons) (fun q hq=>by rcases List.mem_cons.1 hq with rfl | hq<;>simp only[List.mem_cons,true_or,or_true,hq])) | skip)
theorem Ao0:NdC e (VO (some ⟨e.bs,0,none⟩)) (lv num e.T f).postfix_:=by
  intro w s A l r n' s' K h hm hK
  refine AaN _ _ _ ?_
  unfold NA
  cases f with
  | zero=>cases hm
  | succ f=>
    have hG:=hT f (by omega)
    have hg:4 * f+4≤2147483648:=by omega
    replace hm:WN (lv num e.T f) s=some (n',s'):=hm
    unfold WN at hm
    refine h.bx fun b1 w h=>hG.atom.bind h hm fun p s1 x w hm h=>h.bx fun b3 w h=>h.z0 fun w h => ?_
    refine YE (fun n u w'=>∃ s1 q x,(lv num e.T n).postL q s1=some (n',s')∧n≤f∧PM e w' s1 A (ndE b3 x :: zNd b1 :: l) ((q,x) :: r)) f () rfl ⟨_,_,_,hm,Nat.le_refl _,h⟩ ?_
    clear h hm hG hg
    rintro n u w ⟨s1,q,x,hm,hn,h⟩ again hag
    cases n with
    | zero=>cases hm
    | succ g=>
      have hG:=hT g (by omega)
      have hg:4 * g+4≤2147483648:=by omega
      replace hm:Agi e.T (lv num e.T g) q s1=some (n',s'):=hm
      unfold Agi at hm
      refine h.bad (JE (fun hb0 => ?_) (fun hb0 => ?_))
      · rw[if_neg (by simpa using hb0)] at hm
        repeat' first
          | (with_reducible refine h.bx fun b w h => ?_)
          | (with_reducible refine h.dw fun w h => ?_)
          | (with_reducible refine h.z0 fun w h => ?_)
          | (with_reducible refine h.z1 fun w h => ?_)
          | (with_reducible refine h.s0 fun w h => ?_)
          | (with_reducible refine h.s1 fun w h => ?_)
          | (with_reducible refine h.ld_nd (by first | exact JR | exact QF | exact QP | exact QQ | exact QR | exact QT) ?_)
          | (with_reducible refine h.ld_ndAt (by first | exact JR | exact QF | exact QP | exact QQ | exact QR | exact QT) (by first | exact JR | exact QF | exact QP | exact QQ | exact QR | exact QT) ?_)
          | (with_reducible refine h.lr_nd (by first | exact JR | exact QF | exact QP | exact QQ | exact QR | exact QT) ?_)
          | (with_reducible refine h.exS ?_)
          | (with_reducible refine Sof.ld_nd (by first | exact JR | exact QF | exact QP | exact QQ | exact QR | exact QT) ?_)
          | (with_reducible refine Sof.ld_ndAt3 h (by first | exact JR | exact QF | exact QP | exact QQ | exact QR | exact QT) (by first | exact JR | exact QF | exact QP | exact QQ | exact QR | exact QT) ?_)
          | (with_reducible refine⟨h.sof0,?_⟩)
          | (with_reducible refine⟨h.sof1,?_⟩)
          | (with_reducible refine h.take _ (by decide) _ fun w h => ?_)
          | (with_reducible refine h.must _ (by decide) _ fun w h => ?_)
          | (with_reducible refine h.name E fun w h => ?_)
          | (with_reducible refine h.node _ _ _ fun w h => ?_)
          | (with_reducible refine(h.k1 (by first | exact JR | exact QF | exact QP | exact QQ | exact QR | exact QT)).node _ _ _ fun w h => ?_)
          | (with_reducible refine(h.k2 (by first | exact JR | exact QF | exact QP | exact QQ | exact QR | exact QT) (by first | exact JR | exact QF | exact QP | exact QQ | exact QR | exact QT)).node _ _ _ fun w h => ?_)
          | (with_reducible refine JE (fun hb => ?_) (fun hb => ?_)<;>first | rw[if_pos hb] at hm | rw[if_neg (ne_true_of_eq_false hb)] at hm | skip)
          | ((with_reducible refine hG.exprs.bind h hm fun p s1 x w hm h => ?_);try dsimp only at hm)
          | ((with_reducible refine hG.args.bind (h.k1 (by first | exact JR | exact QF | exact QP | exact QQ | exact QR | exact QT)) (by simp only[List.length_cons,List.length_nil,List.length_append]<;>omega) hm fun sl ns s1 w hm hl h => ?_);try dsimp only at hm)
          | (refine And.intro ?_ ?_)
          | (exact hag g () _ (Nat.lt_succ_self _) ⟨_,_,_,hm,(by omega),h.sub (by repeat first | exact List.Sublist.refl _ | apply List.Sublist.cons) (fun q hq=>by rcases List.mem_cons.1 hq with rfl | hq<;>simp only[List.mem_cons,true_or,or_true,hq])⟩)
          | (with_reducible refine RtN ?_)
        all_goals (first | (cases hm;exact hK _ _ (h.sub (by repeat first | exact List.Sublist.refl _ | apply List.Sublist.cons) (fun q hq=>by rcases List.mem_cons.1 hq with rfl | hq<;>simp only[List.mem_cons,true_or,or_true,hq]))) | exact hK _ _ (h.sub (by repeat first | exact List.Sublist.refl _ | apply List.Sublist.cons) (fun q hq=>by rcases List.mem_cons.1 hq with rfl | hq<;>simp only[List.mem_cons,true_or,or_true,hq])) | skip)
      · rw[if_pos (by simpa using hb0)] at hm
        repeat' first
          | (with_reducible refine h.z1 fun w h => ?_)
          | (with_reducible refine h.ld_nd (by first | exact JR | exact QF | exact QP | exact QQ | exact QR | exact QT) ?_)
          | (with_reducible refine h.lr_nd (by first | exact JR | exact QF | exact QP | exact QQ | exact QR | exact QT) ?_)
          | (with_reducible refine RtN ?_)
        all_goals (first | (cases hm;exact hK _ _ (h.sub (by repeat first | exact List.Sublist.refl _ | apply List.Sublist.cons) (fun q hq=>by rcases List.mem_cons.1 hq with rfl | hq<;>simp only[List.mem_cons,true_or,or_true,hq]))) | exact hK _ _ (h.sub (by repeat first | exact List.Sublist.refl _ | apply List.Sublist.cons) (fun q hq=>by rcases List.mem_cons.1 hq with rfl | hq<;>simp only[List.mem_cons,true_or,or_true,hq])) | skip)
theorem Ari:NdC e (YP (some ⟨e.bs,0,none⟩)) (lv num e.T f).block:=by
  intro w s A l r n' s' K h hm hK
  refine AbX _ _ _ ?_
  unfold RG
  cases f with
  | zero=>cases hm
  | succ f=>
    have hG:=hT f (by omega)
    have hg:4 * f+4≤2147483648:=by omega
    replace hm:AfW e.T (lv num e.T f) s=some (n',s'):=hm
    unfold AfW at hm
    refine h.bx fun b1 w h=>h.must _ (by decide) _ fun w h=>h.mustKind _ (by decide) fun w h=>h.mustKind _ (by decide) fun w h=>hG.stmt.bind h hm fun p s1 x w hm h => ?_
    obtain⟨⟨q,s2⟩,hq,hm⟩:=Option.bind_eq_some_iff.1 hm
    dsimp only at hm hq
    refine h.bx fun b6 w h => ?_
    refine YE (fun n x w'=>∃ s1 ns1,PM e w' s1 ((x,ns1) :: A) (zNd b1 :: l) r∧ns1.length+4 * n≤2147483648∧n≤f∧(lv num e.T n).blockL ns1 s1=some (q,s2)) f ⟨some ⟨b6,0,none⟩,1,1⟩ rfl ⟨_,_,(h.k1 JR).sub (List.Sublist.refl _) (fun q hq=>by simp only[List.mem_cons,hq,or_true]),(by simp only[List.length_cons,List.length_nil];omega),Nat.le_refl _,hq⟩ ?_
    clear h hG hg hq
    rintro n x w ⟨s,ns,h,hl,hn,hq⟩ again hag
    cases n with
    | zero=>cases hq
    | succ g=>
      have hG:=hT g (by omega)
      have hg:4 * g+4≤2147483648:=by omega
      replace hq:SG e.T (lv num e.T g) ns s=some (q,s2):=hq
      unfold SG at hq
      have fin:∀ {w:World},PM e w s ((x,ns) :: A) (zNd b1 :: l) r→some (ns,s)=some (q,s2)→AP (Rt JQ K) (some ⟨e.bs,0,none⟩) ⟨b1,0,none⟩ x w:=by
        intro w h hq
        cases hq
        unfold AP
        cases q with
        | nil=>cases hm
        | cons n0 ns=>
          refine h.mustKind _ (by decide) fun w h=>h.accAt0 ?_
          repeat' first
            | (with_reducible refine h.z0 fun w h => ?_)
            | (with_reducible refine h.lr_nd (by first | exact JR | exact QF | exact QP | exact QQ | exact QR | exact QT) ?_)
            | (with_reducible refine h.node _ _ _ fun w h => ?_)
            | (with_reducible refine RtN ?_)
          all_goals (first | (cases hm;exact hK _ _ (h.sub (by repeat first | exact List.Sublist.refl _ | apply List.Sublist.cons) (fun q hq=>by rcases List.mem_cons.1 hq with rfl | hq<;>simp only[List.mem_cons,true_or,or_true,hq]))) | exact hK _ _ (h.sub (by repeat first | exact List.Sublist.refl _ | apply List.Sublist.cons) (fun q hq=>by rcases List.mem_cons.1 hq with rfl | hq<;>simp only[List.mem_cons,true_or,or_true,hq])) | skip)
      refine h.bad (JE (fun hb => ?_) (fun hb => ?_))
      · refine h.now fun w h=>JE (fun hb1 => ?_) (fun hb1 => ?_)
        · rw[if_pos (by rw[hb,hb1];rfl)] at hq
          unfold KY
          obtain⟨⟨p2,s3⟩,hp2,hq⟩:=Option.bind_eq_some_iff.1 hq
          dsimp only at hq hp2
          refine hG.stmt h hp2 fun x2 w h=>h.bx fun b w h=>h.push JR (by omega) fun sl w h => ?_
          exact hag g _ _ (Nat.lt_succ_self _) ⟨_,_,h.sub (List.Sublist.refl _) (fun q hq=>by simp only[List.mem_cons,hq,or_true]),(by simp only[List.length_append,List.length_cons,List.length_nil];omega),(by omega),hq⟩
        · rw[if_neg (by rw[hb1];simp)] at hq
          exact fin h hq
      · rw[if_neg (by rw[hb];simp)] at hq
        exact fin h hq
end
end Go.Proofs.YtjiagmjfnbljjaaGreatDoor
end
section
namespace Go.Proofs.YtjiagmjfnbljjaaGreatDoor
open Go
set_option maxHeartbeats 4000000
set_option linter.unusedVariables false
set_option linter.unusedSimpArgs false
set_option linter.unusedSectionVars false
section
variable{e:Pe}{num:ByteArray→(Bool×List Int)×Bool}(E:AgW e num){f:Nat}(hT:∀ g,g<f→TZ e num g)(hf:4 * f+8≤2147483648)
include E hT hf
theorem AsW:LsC e (4 * f) (IY (some ⟨e.bs,0,none⟩)) fun l=>(lv num e.T f).args l 0:=by
  intro w s A l r sl ns ns' s' K h hl hm hK
  refine Ac5 _ _ _ _ ?_
  unfold TG
  refine YE (fun n x w'=>∃ s1 ns1,PM e w' s1 ((x.1,ns1) :: A) l r∧ns1.length+4 * n≤2147483648∧n≤f∧(lv num e.T n).args ns1 x.2 s1=some (ns',s')) f (sl,0) rfl ⟨s,ns,h,hl,Nat.le_refl _,hm⟩ ?_
  clear h hl hm s ns sl w
  rintro n ⟨sl,st⟩ w ⟨s,ns,h,hl,hn,hm⟩ again hag
  dsimp only at h hm hag ⊢
  cases n with
  | zero=>cases hm
  | succ g=>
    have hG:=hT g (by omega)
    have hg:4 * g+4≤2147483648:=by omega
    replace hm:Aj7 num e.T (lv num e.T g) ns st s=some (ns',s'):=hm
    unfold Aj7 at hm
    have out:∀ {w:World},PM e w s ((sl,ns) :: A) l r→some (ns,s)=some (ns',s')→Rt hSl K sl.v w:=by
      intro w h hm
      cases hm
      exact RtS (hK _ _ (by omega) h)
    have go:∀ {w:World},PM e w s ((sl,ns) :: A) l r→s.bad=false→(MT num e.T s || isP e.T 5 (⟨#[42,42]⟩:ByteArray) s)=true→ES (Rt hSl K) again (some ⟨e.bs,0,none⟩) sl st w:=by
      intro w h hb1 hb2
      rw[if_neg (by rw[hb1,hb2];decide)] at hm
      unfold ES
      have hlt:s.i<e.T.length:=by
        refine SU fun h9 => ?_
        rcases Bool.or_eq_true _ _▸hb2 with hb | hb
        · unfold MT AeJ at hb
          rw[h9] at hb
          simp at hb
        · unfold isP at hb
          rw[h9] at hb
          simp at hb
      refine h.now fun w h=>h.bx fun y9 w h=>h.t0 fun w h=>h.then fun w h=>h.bx fun a11 w h=>h.t0 fun w h => ?_
      have b5:∀ {w:World},PM e w s ((sl,ns) :: A) (tkE a11 (RZ e.T s) :: tkE y9 (ZN e.T s) :: l) r→(if decide (st > 0) then some (ns,DH e.T s) else((lv num e.T g).expr s).bind fun p=>NU e.T (lv num e.T g) (ns ++ [p.1]) st p.2)=some (ns',s')→DT (Rt hSl K) again (some ⟨e.bs,0,none⟩) sl st w:=by
        intro w h hm
        unfold DT
        repeat' first
          | (with_reducible refine h.bx fun b w h => ?_)
          | (with_reducible refine h.take _ (by decide) _ fun w h => ?_)
          | (with_reducible refine h.wrong fun w h => ?_)
          | (with_reducible refine h.push (by first | exact JR | exact QF | exact QP | exact QQ | exact QR | exact QT) (by first | omega | (simp only[List.length_cons,List.length_nil,List.length_append]<;>omega)) fun sl w h => ?_)
          | (with_reducible refine JE (fun hb => ?_) (fun hb => ?_)<;>first | rw[if_pos hb] at hm | rw[if_neg (ne_true_of_eq_false hb)] at hm | skip)
          | ((with_reducible refine hG.expr.bind h hm fun p s1 x w hm h => ?_);try dsimp only at hm)
          | ((unfold GA;unfold NU at hm))
          | (exact hag g (_,_) _ (Nat.lt_succ_self _) ⟨_,_,h.sub (by repeat first | exact List.Sublist.refl _ | apply List.Sublist.cons) (fun q hq=>by simp only[List.mem_cons,hq,or_true]),(by simp only[List.length_append,List.length_cons,List.length_nil];omega),(by omega),hm⟩)
          | (with_reducible refine RtS ?_)
        all_goals (cases hm;exact hK _ _ (by first | omega | (simp only[List.length_append,List.length_cons,List.length_nil];omega)) (h.sub (by repeat first | exact List.Sublist.refl _ | apply List.Sublist.cons) (fun q hq=>by simp only[List.mem_cons,hq,or_true])))
      have b3:∀ {w:World},PM e w s ((sl,ns) :: A) (tkE a11 (RZ e.T s) :: tkE y9 (ZN e.T s) :: l) r→((ZN e.T s).Kind==5 && (ZN e.T s).Text.toList==(⟨#[42,42]⟩:ByteArray).toList)=false→ER (Rt hSl K) again (some ⟨e.bs,0,none⟩) sl st ⟨y9,0,none⟩ ⟨a11,0,none⟩ w:=by
        intro w h hb3
        rw[if_neg (ne_true_of_eq_false hb3)] at hm
        unfold ER
        refine h.ld_tk QF (h.named (E.now _) fun w h=>JE (fun hb4 => ?_) (fun hb4 => ?_))
        · refine h.ld_tkKind JR (JE (fun hb5 => ?_) (fun hb5 => ?_))
          · refine h.ld_tkText JR (JE (fun hb6 => ?_) (fun hb6 => ?_))
            · rw[if_pos (by rw[hb4,hb5,hb6];rfl)] at hm
              have hlt2:s.inc.i<e.T.length:=by
                refine SU fun h9 => ?_
                have:(RZ e.T s).Kind=9:=h9
                rw[this] at hb5;simp at hb5
              unfold LX
              refine JE (fun hb => ?_) (fun hb => ?_)
              · rw[if_pos hb] at hm
                refine h.wrong fun w h=>RtS ?_
                cases hm
                exact hK _ _ (by omega) (h.sub (by repeat first | exact List.Sublist.refl _ | apply List.Sublist.cons) (fun q hq=>hq))
              · rw[if_neg (ne_true_of_eq_false hb)] at hm
                have hl2:=e.hT.len
                refine JM rfl (JO (x:=(s.i:Int)) (h.1.cellsS 1 _ rfl) (JM rfl ?_))
                refine h.1.set_i (i:=s.i+2) (by rw[JY (by omega) (by omega)];omega) fun w h => ?_
                replace h:PM e w s.inc.inc ((sl,ns) :: A) (tkE a11 (RZ e.T s) :: tkE y9 (ZN e.T s) :: l) r:=⟨h,by simp only[PS.inc] at hlt2 ⊢;omega⟩
                repeat' first
                  | (with_reducible refine h.bx fun b w h => ?_)
                  | (with_reducible refine h.dw fun w h => ?_)
                  | (with_reducible refine h.exS ?_)
                  | (with_reducible refine Sof.ld_tkAt (by first | exact JR | exact QF | exact QP | exact QQ | exact QR | exact QT) ?_)
                  | (with_reducible refine Sof.ld_tkText (by first | exact JR | exact QF | exact QP | exact QQ | exact QR | exact QT) ?_)
                  | (with_reducible refine⟨h.sof0,?_⟩)
                  | (with_reducible refine⟨h.sof1,?_⟩)
                  | (with_reducible refine h.take _ (by decide) _ fun w h => ?_)
                  | (with_reducible refine(h.k1 (by first | exact JR | exact QF | exact QP | exact QQ | exact QR | exact QT)).node _ _ _ fun w h => ?_)
                  | (with_reducible refine h.push (by first | exact JR | exact QF | exact QP | exact QQ | exact QR | exact QT) (by first | omega | (simp only[List.length_cons,List.length_nil,List.length_append]<;>omega)) fun sl w h => ?_)
                  | (with_reducible refine JE (fun hb => ?_) (fun hb => ?_)<;>first | rw[if_pos hb] at hm | rw[if_neg (ne_true_of_eq_false hb)] at hm | skip)
                  | ((with_reducible refine hG.expr.bind h hm fun p s1 x w hm h => ?_);try dsimp only at hm)
                  | ((unfold GA;unfold NU at hm))
                  | (exact hag g (_,_) _ (Nat.lt_succ_self _) ⟨_,_,h.sub (by repeat first | exact List.Sublist.refl _ | apply List.Sublist.cons) (fun q hq=>by simp only[List.mem_cons,hq,or_true]),(by simp only[List.length_append,List.length_cons,List.length_nil];omega),(by omega),hm⟩)
                  | (with_reducible refine RtS ?_)
                all_goals (cases hm;exact hK _ _ (by first | omega | (simp only[List.length_append,List.length_cons,List.length_nil];omega)) (h.sub (by repeat first | exact List.Sublist.refl _ | apply List.Sublist.cons) (fun q hq=>by simp only[List.mem_cons,hq,or_true])))
            · rw[if_neg (by rw[hb6];simp)] at hm
              exact b5 h hm
          · rw[if_neg (by rw[hb5];simp)] at hm
            exact b5 h hm
        · rw[if_neg (by rw[hb4];simp)] at hm
          exact b5 h hm
      refine h.ld_tkKind QF (JE (fun hb3 => ?_) (fun hb3 => ?_))
      · refine h.ld_tkText QF (JE (fun hb4 => ?_) (fun hb4 => ?_))
        · rw[if_pos (by rw[hb3,hb4];rfl)] at hm
          unfold LW
          repeat' first
            | (with_reducible refine h.bx fun b w h => ?_)
            | (with_reducible refine h.dw fun w h => ?_)
            | (with_reducible refine h.exS ?_)
            | (with_reducible refine Sof.ld_tkAt (by first | exact JR | exact QF | exact QP | exact QQ | exact QR | exact QT) ?_)
            | (with_reducible refine⟨h.sof0,?_⟩)
            | (with_reducible refine⟨h.sof1,?_⟩)
            | (with_reducible refine h.inc ‹_› fun w h => ?_)
            | (with_reducible refine h.take _ (by decide) _ fun w h => ?_)
            | (with_reducible refine h.wrong fun w h => ?_)
            | (with_reducible refine(h.k1 (by first | exact JR | exact QF | exact QP | exact QQ | exact QR | exact QT)).node _ _ _ fun w h => ?_)
            | (with_reducible refine h.push (by first | exact JR | exact QF | exact QP | exact QQ | exact QR | exact QT) (by first | omega | (simp only[List.length_cons,List.length_nil,List.length_append]<;>omega)) fun sl w h => ?_)
            | (with_reducible refine JE (fun hb => ?_) (fun hb => ?_)<;>first | rw[if_pos hb] at hm | rw[if_neg (ne_true_of_eq_false hb)] at hm | skip)
            | ((with_reducible refine hG.expr.bind h hm fun p s1 x w hm h => ?_);try dsimp only at hm)
            | ((unfold GA;unfold NU at hm))
            | (exact hag g (_,_) _ (Nat.lt_succ_self _) ⟨_,_,h.sub (by repeat first | exact List.Sublist.refl _ | apply List.Sublist.cons) (fun q hq=>by simp only[List.mem_cons,hq,or_true]),(by simp only[List.length_append,List.length_cons,List.length_nil];omega),(by omega),hm⟩)
            | (with_reducible refine RtS ?_)
          all_goals (cases hm;exact hK _ _ (by first | omega | (simp only[List.length_append,List.length_cons,List.length_nil];omega)) (h.sub (by repeat first | exact List.Sublist.refl _ | apply List.Sublist.cons) (fun q hq=>by simp only[List.mem_cons,hq,or_true])))
        · exact b3 h (by rw[hb4];simp)
      · exact b3 h (by rw[hb3];rfl)
    refine h.bad (JE (fun hb => ?_) (fun hb => ?_))
    · refine h.begins E fun w h=>JE (fun hb1 => ?_) (fun hb1 => ?_)
      · exact go h (by simpa using hb) (by rw[hb1];rfl)
      · refine h.sign _ fun w h=>JE (fun hb2 => ?_) (fun hb2 => ?_)
        · exact go h (by simpa using hb) (by rw[hb2];simp)
        · rw[if_pos (by rw[hb1,hb2];simp)] at hm
          exact out h hm
    · rw[if_pos (by have:s.bad=true:=(by simpa using hb);rw[this];rfl)] at hm
      exact out h hm
theorem AqI:NlC e (4 * f) (HB (some ⟨e.bs,0,none⟩)) ((lv num e.T f).params [] false):=by
  intro w s A l r ns' s' K h hl hm hK
  refine Abd _ _ _ ?_
  unfold PE
  refine YE (fun n x w'=>∃ s1 ns1,PM e w' s1 ((x.1,ns1) :: A) l r∧ns1.length+4 * n≤2147483648∧n≤f∧(lv num e.T n).params ns1 x.2 s1=some (ns',s')) f (⟨none,0,0⟩,false) rfl ⟨s,[],h.acc0,by simpa using hl,Nat.le_refl _,hm⟩ ?_
  clear h hl hm s w
  rintro n ⟨sl,st⟩ w ⟨s,ns,h,hl,hn,hm⟩ again hag
  dsimp only at h hm hag ⊢
  cases n with
  | zero=>cases hm
  | succ g=>
    have hG:=hT g (by omega)
    have hg:4 * g+4≤2147483648:=by omega
    replace hm:Acy e.T (lv num e.T g) ns st s=some (ns',s'):=hm
    unfold Acy at hm
    refine h.bad (JE (fun hb0 => ?_) (fun hb0 => ?_))
    · rw[if_neg (by simpa using hb0)] at hm
      refine h.now fun w h=>h.bx fun b5 w h=>h.t0 fun w h=>h.take _ (by decide) _ fun w h=>JE (fun hb => ?_) (fun hb => ?_)
      · rw[if_pos hb] at hm
        repeat' first
          | (with_reducible refine h.bx fun b w h => ?_)
          | (with_reducible refine h.dw fun w h => ?_)
          | (with_reducible refine h.exS ?_)
          | (with_reducible refine Sof.ld_tkAt (by first | exact JR | exact QF | exact QP | exact QQ | exact QR | exact QT) ?_)
          | (with_reducible refine⟨h.sof0,?_⟩)
          | (with_reducible refine⟨h.sof1,?_⟩)
          | (with_reducible refine h.take _ (by decide) _ fun w h => ?_)
          | (with_reducible refine h.name E fun w h => ?_)
          | (with_reducible refine h.node0 _ _ _ fun w h => ?_)
          | (with_reducible refine h.push (by first | exact JR | exact QF | exact QP | exact QQ | exact QR | exact QT) (by first | omega | (simp only[List.length_cons,List.length_nil,List.length_append]<;>omega)) fun sl w h => ?_)
          | (with_reducible refine RtS ?_)
        all_goals (cases hm;exact hK _ _ (by first | omega | (simp only[List.length_append,List.length_cons,List.length_nil];omega)) (h.sub (by repeat first | exact List.Sublist.refl _ | apply List.Sublist.cons) (fun q hq=>by simp only[List.mem_cons,hq,or_true])))
      · rw[if_neg (ne_true_of_eq_false hb)] at hm
        have hts:JH e.T 5 (⟨#[42,42]⟩:ByteArray) s=s:=by unfold JH;rw[hb];rfl
        rw[hts] at hm h
        refine h.ld_tk JR (h.named (E.now _) fun w h=>JE (fun hb1 => ?_) (fun hb1 => ?_))
        · rw[if_pos hb1] at hm
          cases hm
          exact RtS (hK _ _ (by omega) (h.sub (by repeat first | exact List.Sublist.refl _ | apply List.Sublist.cons) (fun q hq=>hq)))
        · rw[if_neg (ne_true_of_eq_false hb1)] at hm
          have hlt:s.i<e.T.length:=by
            refine SU fun h9 => ?_
            unfold CI at hb1
            rw[h9] at hb1;simp at hb1
          refine h.then fun w h=>h.bx fun y17 w h=>h.t0 fun w h => ?_
          have k0:∀ {w:World},PM e w s ((sl,ns) :: A) (tkE y17 (RZ e.T s) :: tkE b5 (ZN e.T s) :: l) r→(st && !((RZ e.T s).Kind==5 && (RZ e.T s).Text.toList==(⟨#[61]⟩:ByteArray).toList))=false→MQ (Rt hSl K) again (some ⟨e.bs,0,none⟩) sl st ⟨b5,0,none⟩ w:=by
            intro w h hb2
            rw[if_neg (ne_true_of_eq_false hb2)] at hm
            unfold MQ
            repeat' first
              | (with_reducible refine h.bx fun b w h => ?_)
              | (with_reducible refine h.dw fun w h => ?_)
              | (with_reducible refine h.exS ?_)
              | (with_reducible refine Sof.ld_tkAt (by first | exact JR | exact QF | exact QP | exact QQ | exact QR | exact QT) ?_)
              | (with_reducible refine Sof.ld_tkText (by first | exact JR | exact QF | exact QP | exact QQ | exact QR | exact QT) ?_)
              | (with_reducible refine⟨h.sof0,?_⟩)
              | (with_reducible refine⟨h.sof1,?_⟩)
              | (with_reducible refine h.inc ‹_› fun w h => ?_)
              | (with_reducible refine h.take _ (by decide) _ fun w h => ?_)
              | (with_reducible refine h.nothing _ fun w h => ?_)
              | (with_reducible refine(h.k1 (by first | exact JR | exact QF | exact QP | exact QQ | exact QR | exact QT)).node _ _ _ fun w h => ?_)
              | (with_reducible refine h.push (by first | exact JR | exact QF | exact QP | exact QQ | exact QR | exact QT) (by first | omega | (simp only[List.length_cons,List.length_nil,List.length_append]<;>omega)) fun sl w h => ?_)
              | (with_reducible refine JE (fun hb => ?_) (fun hb => ?_)<;>first | rw[if_pos hb] at hm | rw[if_neg (ne_true_of_eq_false hb)] at hm | skip)
              | ((with_reducible refine hG.expr.bind h hm fun p s1 x w hm h => ?_);try dsimp only at hm)
              | ((unfold IG;unfold TB at hm))
              | (exact hag g (_,_) _ (Nat.lt_succ_self _) ⟨_,_,h.sub (by repeat first | exact List.Sublist.refl _ | apply List.Sublist.cons) (fun q hq=>by simp only[List.mem_cons,hq,or_true]),(by simp only[List.length_append,List.length_cons,List.length_nil];omega),(by omega),hm⟩)
              | (with_reducible refine RtS ?_)
            all_goals (cases hm;exact hK _ _ (by first | omega | (simp only[List.length_append,List.length_cons,List.length_nil];omega)) (h.sub (by repeat first | exact List.Sublist.refl _ | apply List.Sublist.cons) (fun q hq=>by simp only[List.mem_cons,hq,or_true])))
          have no:∀ {w:World},PM e w s ((sl,ns) :: A) (tkE y17 (RZ e.T s) :: tkE b5 (ZN e.T s) :: l) r→(st && !((RZ e.T s).Kind==5 && (RZ e.T s).Text.toList==(⟨#[61]⟩:ByteArray).toList))=true→QZ (some ⟨e.bs,0,none⟩) (fun _ w=>Rt hSl K sl.v w) w:=by
            intro w h hb2
            rw[if_pos hb2] at hm
            refine h.wrong fun w h=>RtS ?_
            cases hm
            exact hK _ _ (by omega) (h.sub (by repeat first | exact List.Sublist.refl _ | apply List.Sublist.cons) (fun q hq=>hq))
          refine JE (fun hb2 => ?_) (fun hb2 => ?_)
          · refine h.ld_tkKind JR (JE (fun hb3 => ?_) (fun hb3 => ?_))
            · refine h.ld_tkText JR (JE (fun hb4 => ?_) (fun hb4 => ?_))
              · exact no h (by rw[hb2,hb3];simpa using hb4)
              · exact k0 h (by rw[hb2,hb3];simpa using hb4)
            · exact no h (by rw[hb2,hb3];rfl)
          · exact k0 h (by rw[hb2];rfl)
    · rw[if_pos (by simpa using hb0)] at hm
      cases hm
      exact RtS (hK _ _ (by omega) h)
theorem Aqf:LsC e (4 * f) (HA (some ⟨e.bs,0,none⟩)) fun l=>(lv num e.T f).caught l false:=by
  intro w s A l r sl ns ns' s' K h hl hm hK
  refine Abb _ _ _ _ ?_
  unfold PC
  refine YE (fun n x w'=>∃ s1 ns1,PM e w' s1 ((x.1,ns1) :: A) l r∧ns1.length+4 * n≤2147483648∧n≤f∧(lv num e.T n).caught ns1 x.2 s1=some (ns',s')) f (sl,false) rfl ⟨s,ns,h,hl,Nat.le_refl _,hm⟩ ?_
  clear h hl hm s ns sl w
  rintro n ⟨sl,st⟩ w ⟨s,ns,h,hl,hn,hm⟩ again hag
  dsimp only at h hm hag ⊢
  cases n with
  | zero=>cases hm
  | succ g=>
    have hG:=hT g (by omega)
    have hg:4 * g+4≤2147483648:=by omega
    replace hm:Acl num e.T (lv num e.T g) ns st s=some (ns',s'):=hm
    unfold Acl at hm
    refine h.word _ fun w h=>JE (fun hb => ?_) (fun hb => ?_)
    · rw[if_neg (by rw[hb];simp)] at hm
      have hlt:s.i<e.T.length:=AmU (by decide) hb
      repeat' first
        | (with_reducible refine h.bx fun b w h => ?_)
        | (with_reducible refine h.dw fun w h => ?_)
        | (with_reducible refine h.z0 fun w h => ?_)
        | (with_reducible refine h.s0 fun w h => ?_)
        | (with_reducible refine h.exS ?_)
        | (with_reducible refine Sof.ld_nd (by first | exact JR | exact QF | exact QP | exact QQ | exact QR | exact QT) ?_)
        | (with_reducible refine⟨h.sof0,?_⟩)
        | (with_reducible refine⟨h.sof1,?_⟩)
        | (with_reducible refine h.inc ‹_› fun w h => ?_)
        | (with_reducible refine h.now fun w h => ?_)
        | (with_reducible refine h.take _ (by decide) _ fun w h => ?_)
        | (with_reducible refine h.wrong fun w h => ?_)
        | (with_reducible refine h.begins E fun w h => ?_)
        | (with_reducible refine h.name E fun w h => ?_)
        | (with_reducible refine h.nothing _ fun w h => ?_)
        | (with_reducible refine(h.k2 (by first | exact JR | exact QF | exact QP | exact QQ | exact QR | exact QT) (by first | exact JR | exact QF | exact QP | exact QQ | exact QR | exact QT)).node _ _ _ fun w h => ?_)
        | (with_reducible refine h.push (by first | exact JR | exact QF | exact QP | exact QQ | exact QR | exact QT) (by first | omega | (simp only[List.length_cons,List.length_nil,List.length_append]<;>omega)) fun sl w h => ?_)
        | (with_reducible refine JE (fun hb => ?_) (fun hb => ?_)<;>first | rw[if_pos hb] at hm | rw[if_neg (ne_true_of_eq_false hb)] at hm | skip)
        | ((with_reducible refine hG.expr.bind h hm fun p s1 x w hm h => ?_);try dsimp only at hm)
        | ((with_reducible refine hG.block.bind h hm fun p s1 x w hm h => ?_);try dsimp only at hm)
        | ((unfold MO;unfold KM at hm))
        | (exact hag g (_,_) _ (Nat.lt_succ_self _) ⟨_,_,h.sub (by repeat first | exact List.Sublist.refl _ | apply List.Sublist.cons) (fun q hq=>by simp only[List.mem_cons,hq,or_true]),(by simp only[List.length_append,List.length_cons,List.length_nil];omega),(by omega),hm⟩)
        | (with_reducible refine RtS ?_)
      all_goals (cases hm;exact hK _ _ (by first | omega | (simp only[List.length_append,List.length_cons,List.length_nil];omega)) (h.sub (by repeat first | exact List.Sublist.refl _ | apply List.Sublist.cons) (fun q hq=>by simp only[List.mem_cons,hq,or_true])))
    · rw[if_pos (by rw[hb];rfl)] at hm
      cases hm
      exact RtS (hK _ _ (by omega) h)
end
end Go.Proofs.YtjiagmjfnbljjaaGreatDoor
end
section
namespace Go.Proofs.YtjiagmjfnbljjaaGreatDoor
open Go
set_option maxHeartbeats 4000000
set_option linter.unusedVariables false
set_option linter.unusedSimpArgs false
set_option linter.unusedSectionVars false
section
variable{e:Pe}{num:ByteArray→(Bool×List Int)×Bool}(E:AgW e num){g:Nat}(hG:TZ e num g)(hg:4 * g+4≤2147483648)
include E hG hg
theorem Arr(a:Int):NdC e (IA (some ⟨e.bs,0,none⟩) a) (AfZ e.T (lv num e.T g) a):=by
  intro w s A l r n s' K h hm hK
  refine AbY _ _ _ _ ?_
  unfold RH
  unfold AfZ at hm
  repeat' first
    | (with_reducible refine h.bx fun b w h => ?_)
    | (with_reducible refine h.dw fun w h => ?_)
    | (with_reducible refine h.z0 fun w h => ?_)
    | (with_reducible refine h.z1 fun w h => ?_)
    | (with_reducible refine h.z2 fun w h => ?_)
    | (with_reducible refine h.ld_nd (by first | exact JR | exact QF | exact QP | exact QQ | exact QR | exact QT) ?_)
    | (with_reducible refine h.lr_nd (by first | exact JR | exact QF | exact QP | exact QQ | exact QR | exact QT) ?_)
    | (with_reducible refine h.exS ?_)
    | (with_reducible refine Sof.ld_nd (by first | exact JR | exact QF | exact QP | exact QQ | exact QR | exact QT) ?_)
    | (with_reducible refine Sof.ld_ndAt3 h (by first | exact JR | exact QF | exact QP | exact QQ | exact QR | exact QT) (by first | exact JR | exact QF | exact QP | exact QQ | exact QR | exact QT) ?_)
    | (with_reducible refine⟨h.sof0,?_⟩)
    | (with_reducible refine⟨h.sof1,?_⟩)
    | (with_reducible refine⟨h.sof2,?_⟩)
    | (with_reducible refine h.sign _ fun w h => ?_)
    | (with_reducible refine h.word _ fun w h => ?_)
    | (with_reducible refine h.take _ (by decide) _ fun w h => ?_)
    | (with_reducible refine h.must _ (by decide) _ fun w h => ?_)
    | (with_reducible refine h.node _ _ _ fun w h => ?_)
    | (with_reducible refine h.node0 _ _ _ fun w h => ?_)
    | (with_reducible refine(h.k2 (by first | exact JR | exact QF | exact QP | exact QQ | exact QR | exact QT) (by first | exact JR | exact QF | exact QP | exact QQ | exact QR | exact QT)).node _ _ _ fun w h => ?_)
    | (with_reducible refine(h.sw.k2 (by first | exact JR | exact QF | exact QP | exact QQ | exact QR | exact QT) (by first | exact JR | exact QF | exact QP | exact QQ | exact QR | exact QT)).node _ _ _ fun w h => ?_)
    | (with_reducible refine JE (fun hb => ?_) (fun hb => ?_)<;>first | rw[if_pos hb] at hm | rw[if_neg (ne_true_of_eq_false hb)] at hm | skip)
    | ((with_reducible refine hG.expr.bind h hm fun p s1 x w hm h => ?_);try dsimp only at hm)
    | ((with_reducible refine hG.item.bind h hm fun p s1 x w hm h => ?_);try dsimp only at hm)
    | ((with_reducible refine hG.more.bind (h.k1 (by first | exact JR | exact QF | exact QP | exact QQ | exact QR | exact QT)) (by simp only[List.length_cons,List.length_nil,List.length_append]<;>omega) hm fun sl ns s1 w hm hl h => ?_);try dsimp only at hm)
    | ((with_reducible refine hG.comp.bind (h.k1 (by first | exact JR | exact QF | exact QP | exact QQ | exact QR | exact QT)) (by simp only[List.length_cons,List.length_nil,List.length_append]<;>omega) hm fun sl ns s1 w hm hl h => ?_);try dsimp only at hm)
    | ((with_reducible refine hG.items.bind (h.k1 (by first | exact JR | exact QF | exact QP | exact QQ | exact QR | exact QT)) (by simp only[List.length_cons,List.length_nil,List.length_append]<;>omega) hm fun sl ns s1 w hm hl h => ?_);try dsimp only at hm)
    | (refine And.intro ?_ ?_)
    | (with_reducible refine RtN ?_)
  all_goals (first | (cases hm;exact hK _ _ (h.sub (by repeat first | exact List.Sublist.refl _ | apply List.Sublist.cons) (fun q hq=>by rcases List.mem_cons.1 hq with rfl | hq<;>simp only[List.mem_cons,true_or,or_true,hq]))) | exact hK _ _ (h.sub (by repeat first | exact List.Sublist.refl _ | apply List.Sublist.cons) (fun q hq=>by rcases List.mem_cons.1 hq with rfl | hq<;>simp only[List.mem_cons,true_or,or_true,hq])) | skip)
end
end Go.Proofs.YtjiagmjfnbljjaaGreatDoor
end
section
namespace Go.Proofs.YtjiagmjfnbljjaaGreatDoor
open Go
set_option maxHeartbeats 4000000
set_option linter.unusedVariables false
set_option linter.unusedSimpArgs false
set_option linter.unusedSectionVars false
section
variable{e:Pe}{w:World}{s:PS}{A:Acc}{l:List En}{r:Rp}
theorem AA.kidsN{w:World}{I:Nat→Prop}{n:Nd}{x:JA}(h:AA w I n x):x.Kids.n=n.kids.length:=by cases n;unfold AA at h;exact h.2.2.2.2.2.1
theorem OP.get{w:World}{I:Nat→Prop}{ks:List Nd}{p:Option Addr}(h:OP w I ks p){i:Nat}{k:Nd}(hi:ks[i]? = some k):∃ a x,p=some a∧JD w (a.add (i * 6)) (JA.cells x).toList∧AA w I k x:=by
  induction ks generalizing p i with
  | nil=>simp at hi
  | cons k0 ks ih=>
    unfold OP at h
    obtain⟨a,ha,hb,⟨x,hc,hx⟩,hr⟩:=h
    cases i with
    | zero=>
      simp at hi;subst hi
      exact⟨a,x,ha,by simpa [JP] using hc,hx⟩
    | succ i=>
      obtain⟨a',x',ha',hc',hx'⟩:=ih hr (i:=i) (by simpa using hi)
      simp only[Option.some.injEq] at ha'
      subst ha'
      refine⟨a,x',ha,?_,hx'⟩
      rw[II] at hc'
      rw[show(i+1) * 6=6+i * 6 by omega];exact hc'
theorem PM.kidsN(h:PM e w s A l r){n:Nd}{x:JA}(hx:(n,x)∈r):x.Kids.n=n.kids.length:=by
  obtain⟨I,h⟩:=h.rep hx
  exact h.kidsN
theorem PM.kidsB(h:PM e w s A l r){n:Nd}{x:JA}(hx:(n,x)∈r):n.kids.length≤9223372036854775807:=by
  obtain⟨I,h⟩:=h.rep hx
  cases n with
  | mk k0 a0 t0 g0 m0 ks0=>
    unfold AA at h
    show ks0.length≤_
    have h1:=h.2.2.2.2.2.1
    have h2:=h.2.2.2.2.2.2.1
    have h3:=h.2.2.2.2.2.2.2.1
    omega
theorem PM.kidNd{n k:Nd}{x:JA}{i:Nat}{K:JA→World→Prop}(h:PM e w s A l r)(hx:(n,x)∈r)(hi:n.kids[i]? = some k)(c:∀ y,PM e w s A l ((k,y) :: r)→K y w):nn x.Kids.a fun a=>0≤(i:Int)∧(i:Int)<((x.Kids.n:Nat):Int)∧JF (a.add ((i:Int).toNat * 6)) K w:=by
  have hn:=h.kidsN hx
  have hlt:=(List.getElem?_eq_some_iff.1 hi).1
  obtain⟨⟨xss,r1,hz,I,h1,h2,h3⟩,hb⟩:=h
  have hr:=h3 _ (List.mem_append_right _ hx)
  cases n with
  | mk k0 a0 t0 g0 m0 ks0=>
    unfold AA at hr
    obtain⟨a,y,ha,hc,hy⟩:=hr.2.2.2.2.2.2.2.2.2.get hi
    refine JM ha ⟨by omega,by omega,QV hc (c y ⟨⟨xss,r1,hz,I,h1,h2,fun q hq => ?_⟩,hb⟩)⟩
    rcases List.mem_append.1 hq with hq | hq
    · exact h3 q (List.mem_append_left _ hq)
    · rcases List.mem_cons.1 hq with rfl | hq
      · exact hy
      · exact h3 q (List.mem_append_right _ hq)
theorem PM.nodeK{n:Nd}{x:JA}{K:JA→World→Prop}(h:PM e w s A l r)(hx:(n,x)∈r)(k a:Int)(t:ByteArray)(c:∀ w',PM e w' s A l ((nod k a t n.kids,Ah9 k a t x.Kids) :: r)→K (Ah9 k a t x.Kids) w'):JI k a t x.Kids K w:=by
  refine PV _ _ _ _ _ _ ?_
  unfold SF
  refine h.bx fun b w1 h1=>h1.st_nd 0 rfl rfl fun w2 h2 => ?_
  refine h2.lr_nd JR (Rt.mk (h:=JQ) _ (c w2 ?_))
  refine PM.add (h2.sub (l':=l) (List.sublist_cons_self ..) fun _ h=>h) fun I hr => ?_
  have:=hr _ hx
  cases n with
  | mk k0 a0 t0 g0 m0 ks0=>
    unfold AA at this
    unfold nod Ah9 AA
    exact⟨rfl,rfl,rfl,rfl,⟨rfl,Nat.le_refl _,nofun,fun _=>rfl,nofun⟩,this.2.2.2.2.2⟩
theorem PM.ld_ndKids{b:Nat}{x:JA}{K:Sl→World→Prop}(h:PM e w s A l r)(hx : .box b (.cells x.cells 27)∈l)(c:K x.Kids w):JZ ((⟨b,0,none⟩:Addr).add 5) K w:=UG (h.cells hx 5 _ rfl) c
theorem Sof.ld_ndKids{B b:Nat}{l:List En}{x:JA}{K:Sl→Prop}(hx : .box b (.cells x.cells 27)∈l)(c:K x.Kids):QM (Sof B l) ((⟨b,0,none⟩:Addr).add 5) K:=ZY (fun w' h=>Sof.cells hx h 5 _ rfl) c
end
section
variable{e:Pe}{num:ByteArray→(Bool×List Int)×Bool}(E:AgW e num){f:Nat}(hT:∀ g,g<f→TZ e num g)(hf:4 * f+8≤2147483648)
include E hT hf
theorem Apc:NdC e (DR (some ⟨e.bs,0,none⟩)) (lv num e.T f).targets:=by
  intro w s A l r n' s' K h hm hK
  refine AaO _ _ _ ?_
  unfold NB
  cases f with
  | zero=>cases hm
  | succ f=>
    have hG:=hT f (by omega)
    have hg:4 * f+4≤2147483648:=by omega
    replace hm:Aab (lv num e.T f) s=some (n',s'):=hm
    unfold Aab at hm
    refine h.bx fun b1 w h=>hG.postfix_.bind h hm fun p s1 x w hm h => ?_
    obtain⟨⟨q,s2⟩,hq,hm⟩:=Option.bind_eq_some_iff.1 hm
    dsimp only at hm hq
    refine h.bx fun b3 w h => ?_
    refine YE (fun n x w'=>∃ s1 ns1,PM e w' s1 ((x,ns1) :: A) (zNd b1 :: l) r∧ns1.length+4 * n≤2147483648∧n≤f∧(lv num e.T n).targL ns1 s1=some (q,s2)) f ⟨some ⟨b3,0,none⟩,1,1⟩ rfl ⟨_,_,(h.k1 JR).sub (List.Sublist.refl _) (fun q hq=>by simp only[List.mem_cons,hq,or_true]),(by simp only[List.length_cons,List.length_nil];omega),Nat.le_refl _,hq⟩ ?_
    clear h hG hg hq
    rintro n x w ⟨s,ns,h,hl,hn,hq⟩ again hag
    cases n with
    | zero=>cases hq
    | succ g=>
      have hG:=hT g (by omega)
      have hg:4 * g+4≤2147483648:=by omega
      replace hq:AcK e.T (lv num e.T g) ns s=some (q,s2):=hq
      unfold AcK at hq
      refine h.take _ (by decide) _ fun w h=>JE (fun hb => ?_) (fun hb => ?_)
      · rw[if_pos hb] at hq
        obtain⟨⟨p2,s3⟩,hp2,hq⟩:=Option.bind_eq_some_iff.1 hq
        dsimp only at hq hp2
        refine hG.postfix_ h hp2 fun x2 w h=>h.bx fun b w h=>h.push JR (by omega) fun sl w h => ?_
        exact hag g _ _ (Nat.lt_succ_self _) ⟨_,_,h.sub (List.Sublist.refl _) (fun q hq=>by simp only[List.mem_cons,hq,or_true]),(by simp only[List.length_append,List.length_cons,List.length_nil];omega),(by omega),hq⟩
      · rw[if_neg (ne_true_of_eq_false hb)] at hq
        cases hq
        refine YE (fun n i w'=>∃ (k:Nat) (s3:PS),i=k∧n+k=q.length∧PM e w' s3 ((x,q) :: A) (zNd b1 :: l) r∧OV (q.drop k) s3=OV q (JH e.T 5 (⟨#[44]⟩:ByteArray) s)) q.length 0 rfl ⟨0,_,rfl,rfl,h,rfl⟩ ?_
        clear h hag
        rintro n i w ⟨k,s3,rfl,hk,h,hchk⟩ again hag
        have hln:=h.accLen
        refine JE (fun hb1 => ?_) (fun hb1 => ?_)
        · have hlt:k<q.length:=by simp at hb1;omega
          have hget:q[k]? = some q[k]:=List.getElem?_eq_getElem hlt
          rw[List.drop_eq_getElem_cons hlt] at hchk
          refine h.accNd hget fun y h=>h.target JR fun w h=>JE (fun hb2 => ?_) (fun hb2 => ?_)
          · refine h.accAt hget (h.fault _ _ fun w h => ?_)
            rw[ZS (n:=q.length) (by omega) (by omega) (by omega)]
            refine hag (n - 1) ((k:Int)+1) _ (by omega) ⟨k+1,_,by omega,by omega,h.sub (List.Sublist.refl _) (fun q hq=>by simp only[List.mem_cons,hq,or_true]),?_⟩
            rw[← hchk]
            show _=OV _ (if BG q[k] then s3 else DN s3 108 (q[k]).at_)
            rw[if_neg (by simpa using hb2)]
          · rw[ZS (n:=q.length) (by omega) (by omega) (by omega)]
            refine hag (n - 1) ((k:Int)+1) _ (by omega) ⟨k+1,_,by omega,by omega,h.sub (List.Sublist.refl _) (fun q hq=>by simp only[List.mem_cons,hq,or_true]),?_⟩
            rw[← hchk]
            show _=OV _ (if BG q[k] then s3 else DN s3 108 (q[k]).at_)
            rw[if_pos (by simpa using hb2)]
        · have hkl:k=q.length:=by simp at hb1;omega
          rw[hkl,List.drop_length] at hchk
          replace hchk:s3=OV q (JH e.T 5 (⟨#[44]⟩:ByteArray) s):=hchk
          cases q with
          | nil=>cases hm
          | cons n0 q=>
            dsimp only at hm
            rw[← hchk] at hm
            refine JE (fun hb2 => ?_) (fun hb2 => ?_)
            · have hq0:q = []:=List.eq_nil_of_length_eq_zero (by simp at hb2 hln;omega)
              subst hq0
              replace hm:some (n0,s3)=some (n',s'):=hm
              cases hm
              refine h.accNd0 fun y h=>h.z0 fun w h=>h.lr_nd JR (RtN (hK _ _ ?_))
              have:=PM.kids h 0 0 (⟨#[]⟩:ByteArray)
              exact this.sub (by repeat first | exact List.Sublist.refl _ | apply List.Sublist.cons) (fun q hq=>by rcases List.mem_cons.1 hq with rfl | hq<;>simp only[List.mem_cons,true_or,or_true,hq])
            · have hq0:q.isEmpty=false:=by
                cases q with
                | nil=>simp at hb2 hln;omega
                | cons _ _=>rfl
              rw[if_neg (ne_true_of_eq_false hq0)] at hm
              refine h.accAt0 ?_
              repeat' first
                | (with_reducible refine h.z0 fun w h => ?_)
                | (with_reducible refine h.lr_nd (by first | exact JR | exact QF | exact QP | exact QQ | exact QR | exact QT) ?_)
                | (with_reducible refine h.node _ _ _ fun w h => ?_)
                | (with_reducible refine RtN ?_)
              all_goals (first | (cases hm;exact hK _ _ (h.sub (by repeat first | exact List.Sublist.refl _ | apply List.Sublist.cons) (fun q hq=>by rcases List.mem_cons.1 hq with rfl | hq<;>simp only[List.mem_cons,true_or,or_true,hq]))) | exact hK _ _ (h.sub (by repeat first | exact List.Sublist.refl _ | apply List.Sublist.cons) (fun q hq=>by rcases List.mem_cons.1 hq with rfl | hq<;>simp only[List.mem_cons,true_or,or_true,hq])) | skip)
theorem Avn(k:Nat)(hk:k≤5):NdC e (UV (some ⟨e.bs,0,none⟩) ((k:Int) - 1)) ((lv num e.T f).row k):=by
  intro w s A l r n' s' K h hm hK
  refine AdD _ _ _ _ ?_
  unfold Aau
  cases f with
  | zero=>cases hm
  | succ f=>
    have hG:=hT f (by omega)
    have hg:4 * f+4≤2147483648:=by omega
    replace hm:Asm (lv num e.T f) k s=some (n',s'):=hm
    refine h.bx fun b1 w h => ?_
    cases k with
    | zero=>
      refine VF (by decide) ?_
      replace hm:(lv num e.T f).minus s=some (n',s'):=hm
      repeat' first
        | (with_reducible refine h.z0 fun w h => ?_)
        | (with_reducible refine h.lr_nd (by first | exact JR | exact QF | exact QP | exact QQ | exact QR | exact QT) ?_)
        | (with_reducible refine hG.minus h hm fun x w h => ?_)
        | (with_reducible refine RtN ?_)
      all_goals (first | (cases hm;exact hK _ _ (h.sub (by repeat first | exact List.Sublist.refl _ | apply List.Sublist.cons) (fun q hq=>by rcases List.mem_cons.1 hq with rfl | hq<;>simp only[List.mem_cons,true_or,or_true,hq]))) | exact hK _ _ (h.sub (by repeat first | exact List.Sublist.refl _ | apply List.Sublist.cons) (fun q hq=>by rcases List.mem_cons.1 hq with rfl | hq<;>simp only[List.mem_cons,true_or,or_true,hq])) | skip)
    | succ k=>
      have hk1:(((k+1:Nat):Int) - 1)=(k:Int):=by omega
      rw[hk1]
      replace hm:((lv num e.T f).row k s).bind (fun p=>(lv num e.T f).rowL k p.1 p.2)=some (n',s'):=hm
      refine ZH (by simp) ?_
      have hw:IntKind.i64.wrap ((k:Int) - 1)=(k:Int) - 1:=JY (by omega) (by omega)
      rw[hw]
      refine NdC.bind (hG.row k (by omega)) h hm fun p s1 x w hm h=>h.bx fun b5 w h=>h.z0 fun w h => ?_
      refine YE (fun n u w'=>∃ s1 q x,(lv num e.T n).rowL k q s1=some (n',s')∧n≤f∧PM e w' s1 A (ndE b5 x :: zNd b1 :: l) ((q,x) :: r)) f () rfl ⟨_,_,_,hm,Nat.le_refl _,h⟩ ?_
      clear h hm hG hg
      rintro n u w ⟨s1,q,x,hm,hn,h⟩ again hag
      cases n with
      | zero=>cases hm
      | succ g=>
        have hG:=hT g (by omega)
        have hg:4 * g+4≤2147483648:=by omega
        replace hm:AkS e.T (lv num e.T g) k q s1=some (n',s'):=hm
        unfold AkS at hm
        refine h.bad (JE (fun hb0 => ?_) (fun hb0 => ?_))
        · rw[if_neg (by simpa using hb0)] at hm
          have k0:∀ {w:World},PM e w s1 A (ndE b5 x :: zNd b1 :: l) ((q,x) :: r)→UB (Rt JQ K) again (some ⟨e.bs,0,none⟩) (k:Int) ⟨b1,0,none⟩ ⟨b5,0,none⟩ (BS e.T s1 (WP k)) w:=by
            intro w h
            unfold UB
            rw[hw]
            have hrow:=hG.row k (by omega)
            refine JE (fun hb => ?_) (fun hb => ?_)
            · rw[if_pos hb] at hm
              repeat' first
                | (with_reducible refine h.z1 fun w h => ?_)
                | (with_reducible refine h.ld_nd (by first | exact JR | exact QF | exact QP | exact QQ | exact QR | exact QT) ?_)
                | (with_reducible refine h.lr_nd (by first | exact JR | exact QF | exact QP | exact QQ | exact QR | exact QT) ?_)
                | (with_reducible refine RtN ?_)
              all_goals (first | (cases hm;exact hK _ _ (h.sub (by repeat first | exact List.Sublist.refl _ | apply List.Sublist.cons) (fun q hq=>by rcases List.mem_cons.1 hq with rfl | hq<;>simp only[List.mem_cons,true_or,or_true,hq]))) | exact hK _ _ (h.sub (by repeat first | exact List.Sublist.refl _ | apply List.Sublist.cons) (fun q hq=>by rcases List.mem_cons.1 hq with rfl | hq<;>simp only[List.mem_cons,true_or,or_true,hq])) | skip)
            · rw[if_neg (ne_true_of_eq_false hb)] at hm
              refine h.inc (Ajx (by rw[hb];rfl)) fun w h => ?_
              refine h.dw fun w h=>h.exS (Sof.ld_ndAt3 h JR JR (Sof.ld_nd JR ?_))
              refine NdC.bind hrow h hm fun p s2 y w hm h => ?_
              dsimp only at hm
              repeat' first
                | (with_reducible refine h.bx fun b w h => ?_)
                | (with_reducible refine h.s0 fun w h => ?_)
                | (with_reducible refine⟨h.sof0,?_⟩)
                | (with_reducible refine⟨h.sof1,?_⟩)
                | (with_reducible refine(h.k2 (by first | exact JR | exact QF | exact QP | exact QQ | exact QR | exact QT) (by first | exact JR | exact QF | exact QP | exact QQ | exact QR | exact QT)).node _ _ _ fun w h => ?_)
                | (exact hag g () _ (Nat.lt_succ_self _) ⟨_,_,_,hm,(by omega),h.sub (by repeat first | exact List.Sublist.refl _ | apply List.Sublist.cons) (fun q hq=>by rcases List.mem_cons.1 hq with rfl | hq<;>simp only[List.mem_cons,true_or,or_true,hq])⟩)
          clear hm hG hw
          rcases k with _ | _ | _ | _ | _ | k
          · refine VF (by decide) (h.bx fun b w h=>h.one (ts:=WP 0) rfl rfl (by decide) fun w h=>k0 h)
          · refine ZH (by decide) (VF (by decide) (h.bx fun b w h=>h.one (ts:=WP 1) rfl rfl (by decide) fun w h=>k0 h))
          · refine ZH (by decide) (ZH (by decide) (VF (by decide) (h.bx fun b w h=>h.one (ts:=WP 2) rfl rfl (by decide) fun w h=>k0 h)))
          · refine ZH (by decide) (ZH (by decide) (ZH (by decide) (VF (by decide) (h.bx fun b w h=>h.one (ts:=WP 3) rfl rfl (by decide) fun w h=>k0 h))))
          · refine ZH (by decide) (ZH (by decide) (ZH (by decide) (ZH (by decide) (h.bx fun b w h=>h.one (ts:=WP 4) rfl rfl (by decide) fun w h=>k0 h))))
          · omega
        · rw[if_pos (by simpa using hb0)] at hm
          repeat' first
            | (with_reducible refine h.z1 fun w h => ?_)
            | (with_reducible refine h.ld_nd (by first | exact JR | exact QF | exact QP | exact QQ | exact QR | exact QT) ?_)
            | (with_reducible refine h.lr_nd (by first | exact JR | exact QF | exact QP | exact QQ | exact QR | exact QT) ?_)
            | (with_reducible refine RtN ?_)
          all_goals (first | (cases hm;exact hK _ _ (h.sub (by repeat first | exact List.Sublist.refl _ | apply List.Sublist.cons) (fun q hq=>by rcases List.mem_cons.1 hq with rfl | hq<;>simp only[List.mem_cons,true_or,or_true,hq]))) | exact hK _ _ (h.sub (by repeat first | exact List.Sublist.refl _ | apply List.Sublist.cons) (fun q hq=>by rcases List.mem_cons.1 hq with rfl | hq<;>simp only[List.mem_cons,true_or,or_true,hq])) | skip)
end
section
variable{e:Pe}{w:World}{s:PS}{A:Acc}{l:List En}{r:Rp}
theorem PM.st_ndAt{b:Nat}{m:Nd}{y:JA}{a:Int}{K:World→Prop}(h:PM e w s A (ndE b y :: l) r)(hy:(m,y)∈r)(c:∀ w',PM e w' s A (ndE b ⟨y.Kind,a,y.Text,y.Num_Neg,y.Num_Mag,y.Kids⟩ :: l) ((Ao3 m a,⟨y.Kind,a,y.Text,y.Num_Neg,y.Num_Mag,y.Kids⟩) :: r)→K w'):YX ((⟨b,0,none⟩:Addr).add 1) a K w:=by
  rw[GQ]
  refine MB (h.heap JR) (Nat.le_of_ble_eq_true rfl) fun w' h'=>c w' ?_
  have h2:PM e w' s A (ndE b ⟨y.Kind,a,y.Text,y.Num_Neg,y.Num_Mag,y.Kids⟩ :: l) r:=⟨h.1.set (k:=0) rfl h',h.2⟩
  refine h2.add fun I hr => ?_
  have:=hr _ hy
  cases m with
  | mk k0 a0 t0 g0 m0 ks0=>
    unfold AA at this
    unfold Ao3 AA
    exact⟨this.1,rfl,this.2.2⟩
theorem Aih{P:Program}{w:World}{t:TypeId}(hu:P.underlying t=some .string)(s:ByteArray)(k:Int)(h0:0≤k)(h1:k≤s.size) :
    (Instr.sliceAt t (.string s) none (some (.int .i64 k)) none).run P w = .ok (.string (s.extract 0 k.toNat)) w:=by
  simp[Instr.sliceAt,underlying,hu,Instr.slice,Instr.sliceBounds,Instr.sliceBound,asIntOf,h0,h1]
end
section
variable{e:Pe}{num:ByteArray→(Bool×List Int)×Bool}(E:AgW e num){g:Nat}(hG:TZ e num g)(hg:4 * g+4≤2147483648)
include E hG hg
theorem AqS:NdC e (HD (some ⟨e.bs,0,none⟩)) (AcF num e.T (lv num e.T g)):=by
  intro w s A l r n s' K h hm hK
  refine Abe _ _ _ ?_
  unfold PF
  unfold AcF at hm
  refine h.bx fun b1 w h=>h.now fun w h=>h.bx fun b3 w h=>h.t0 fun w h=>h.ld_tkAt JR (h.ld_tkKind JR ?_)
  have k1:∀ {w:World},KI (ZN e.T s)=0→PM e w s A (tkE b3 (ZN e.T s) :: zNd b1 :: l) r→MR (Rt JQ K) (some ⟨e.bs,0,none⟩) ⟨b1,0,none⟩ (ZN e.T s).At w:=by
    intro w h0 h
    rw[h0,if_neg (by decide)] at hm
    unfold MR
    repeat' first
      | (with_reducible refine h.bx fun b w h => ?_)
      | (with_reducible refine h.z0 fun w h => ?_)
      | (with_reducible refine h.z1 fun w h => ?_)
      | (with_reducible refine h.z2 fun w h => ?_)
      | (with_reducible refine h.ld_nd (by first | exact JR | exact QF | exact QP | exact QQ | exact QR | exact QT) ?_)
      | (with_reducible refine h.ld_ndAt (by first | exact JR | exact QF | exact QP | exact QQ | exact QR | exact QT) (by first | exact JR | exact QF | exact QP | exact QQ | exact QR | exact QT) ?_)
      | (with_reducible refine h.lr_nd (by first | exact JR | exact QF | exact QP | exact QQ | exact QR | exact QT) ?_)
      | (with_reducible refine h.take _ (by decide) _ fun w h => ?_)
      | (with_reducible refine h.fault _ _ fun w h => ?_)
      | (with_reducible refine h.begins E fun w h => ?_)
      | (with_reducible refine h.target (by first | exact JR | exact QF | exact QP | exact QQ | exact QR | exact QT) fun w h => ?_)
      | (with_reducible refine h.node _ _ _ fun w h => ?_)
      | (with_reducible refine h.nothing _ fun w h => ?_)
      | (with_reducible refine(h.k1 (by first | exact JR | exact QF | exact QP | exact QQ | exact QR | exact QT)).node _ _ _ fun w h => ?_)
      | (with_reducible refine JE (fun hb => ?_) (fun hb => ?_)<;>first | rw[if_pos hb] at hm | rw[if_neg (ne_true_of_eq_false hb)] at hm | skip)
      | ((with_reducible refine hG.expr.bind h hm fun p s1 x w hm h => ?_);try dsimp only at hm)
      | ((with_reducible refine hG.postfix_.bind h hm fun p s1 x w hm h => ?_);try dsimp only at hm)
      | ((with_reducible refine hG.exprs.bind h hm fun p s1 x w hm h => ?_);try dsimp only at hm)
      | ((with_reducible refine hG.names.bind h (by omega) hm fun sl ns s1 w hm hl h => ?_);try dsimp only at hm)
      | (with_reducible refine RtN ?_)
    all_goals first
      | (cases hm;exact hK _ _ (h.sub (by repeat first | exact List.Sublist.refl _ | apply List.Sublist.cons) (fun q hq=>by rcases List.mem_cons.1 hq with rfl | hq<;>simp only[List.mem_cons,true_or,or_true,hq])))
      | skip
    obtain⟨⟨q,s2⟩,hq,hm⟩:=Option.bind_eq_some_iff.1 hm
    dsimp only at hm hq
    refine hG.assigned h JR hq fun y w h=>h.bx fun b64 w h=>h.z0 fun w h=>h.st_ndAt JR fun w h=>h.ld_nd (x:=⟨y.Kind,(ZN e.T s).At,y.Text,y.Num_Neg,y.Num_Mag,y.Kids⟩) JR (h.z2 fun w h=>h.lr_nd QP (RtN ?_))
    cases hm
    exact hK _ _ (h.sub (by repeat first | exact List.Sublist.refl _ | apply List.Sublist.cons) (fun q hq=>by rcases List.mem_cons.1 hq with rfl | hq<;>simp only[List.mem_cons,true_or,or_true,hq]))
  have k0:∀ {w:World} (k:Int),KI (ZN e.T s)=k→(ZN e.T s).Kind=2→PM e w s A (tkE b3 (ZN e.T s) :: zNd b1 :: l) r→VY (Rt JQ K) (some ⟨e.bs,0,none⟩) ⟨b1,0,none⟩ (ZN e.T s).At k w:=by
    intro w k hk h2 h
    unfold VY
    refine JE (fun hb => ?_) (fun hb => ?_)
    · rw[hk,if_pos hb] at hm
      have hlt:s.i<e.T.length:=SU (by rw[h2];decide)
      clear k1
      repeat' first
        | (with_reducible refine h.z1 fun w h => ?_)
        | (with_reducible refine h.lr_nd (by first | exact JR | exact QF | exact QP | exact QQ | exact QR | exact QT) ?_)
        | (with_reducible refine h.inc ‹_› fun w h => ?_)
        | (with_reducible refine h.node0 _ _ _ fun w h => ?_)
        | (with_reducible refine RtN ?_)
      all_goals (first | (cases hm;exact hK _ _ (h.sub (by repeat first | exact List.Sublist.refl _ | apply List.Sublist.cons) (fun q hq=>by rcases List.mem_cons.1 hq with rfl | hq<;>simp only[List.mem_cons,true_or,or_true,hq]))) | exact hK _ _ (h.sub (by repeat first | exact List.Sublist.refl _ | apply List.Sublist.cons) (fun q hq=>by rcases List.mem_cons.1 hq with rfl | hq<;>simp only[List.mem_cons,true_or,or_true,hq])) | skip)
    · exact k1 (by rw[hk];simpa using hb) h
  have hsk:KI (ZN e.T s)=if (ZN e.T s).Kind==2 then
    (if (ZN e.T s).Text.toList==(⟨#[112,97,115,115]⟩:ByteArray).toList then 8 else if (ZN e.T s).Text.toList==(⟨#[98,114,101,97,107]⟩:ByteArray).toList then 9 else if (ZN e.T s).Text.toList==(⟨#[99,111,110,116,105,110,117,101]⟩:ByteArray).toList then 10 else 0)
    else 0:=rfl
  refine JE (fun hb => ?_) (fun hb => ?_)
  · rw[if_pos hb] at hsk
    have h2:(ZN e.T s).Kind=2:=by simpa using hb
    refine h.ld_tkText JR (JE (fun hb1 => ?_) (fun hb1 => ?_))
    · rw[if_pos hb1] at hsk;exact k0 _ hsk h2 h
    · rw[if_neg (ne_true_of_eq_false hb1)] at hsk
      refine JE (fun hb2 => ?_) (fun hb2 => ?_)
      · rw[if_pos hb2] at hsk;exact k0 _ hsk h2 h
      · rw[if_neg (ne_true_of_eq_false hb2)] at hsk
        refine JE (fun hb3 => ?_) (fun hb3 => ?_)
        · rw[if_pos hb3] at hsk;exact k0 _ hsk h2 h
        · rw[if_neg (ne_true_of_eq_false hb3)] at hsk;exact k0 _ hsk h2 h
  · rw[if_neg (ne_true_of_eq_false hb)] at hsk
    exact k1 hsk h
theorem AsZ:NdC e (IZ (some ⟨e.bs,0,none⟩)) (Aj8 num e.T (lv num e.T g)):=by
  intro w s A l r n s' K h hm hK
  refine Ac6 _ _ _ ?_
  unfold TH
  unfold Aj8 at hm
  refine h.bx fun b1 w h=>h.now fun w h=>h.bx fun b3 w h=>h.t0 fun w h=>h.begins E fun w h => ?_
  have bad:∀ {w:World},(!MT num e.T s || AmM (ZN e.T s))=true→PM e w s A (tkE b3 (ZN e.T s) :: zNd b1 :: l) r→QZ (some ⟨e.bs,0,none⟩) (fun _ w=>JC ⟨b1,0,none⟩ ⟨0,0,(⟨#[]⟩:ByteArray),false,⟨none,0,0⟩,⟨none,0,0⟩⟩ (fun w=>JG ⟨b1,0,none⟩ (fun r=>Rt JQ K r.v w) w) w) w:=by
    intro w hb h
    rw[if_pos hb] at hm
    cases hm
    refine h.wrong fun w h=>h.z1 fun w h=>h.lr_nd QF (RtN (hK _ _ ?_))
    exact PM.leaf (h.sub (l':=l) (by repeat first | exact List.Sublist.refl _ | apply List.Sublist.cons) fun q hq=>hq) 0 0 (⟨#[]⟩:ByteArray)
  have k0:∀ {w:World},MT num e.T s=true→AmM (ZN e.T s)=false→PM e w s A (tkE b3 (ZN e.T s) :: zNd b1 :: l) r→GB (Rt JQ K) (some ⟨e.bs,0,none⟩) ⟨b1,0,none⟩ ⟨b3,0,none⟩ w:=by
    intro w h1 h2 h
    rw[if_neg (by rw[h1,h2];decide)] at hm
    have hlt:s.i<e.T.length:=by
      refine SU fun h9 => ?_
      unfold MT AeJ at h1
      rw[h9] at h1
      simp at h1
    unfold GB
    refine h.inc hlt fun w h => ?_
    refine h.ld_tkKind JR (JE (fun hb => ?_) (fun hb => ?_))
    · rw[if_pos hb] at hm
      repeat' first
        | (with_reducible refine h.z1 fun w h => ?_)
        | (with_reducible refine h.ld_tkText (by first | exact JR | exact QF | exact QP | exact QQ | exact QR | exact QT) ?_)
        | (with_reducible refine h.ld_tkAt (by first | exact JR | exact QF | exact QP | exact QQ | exact QR | exact QT) ?_)
        | (with_reducible refine h.lr_nd (by first | exact JR | exact QF | exact QP | exact QQ | exact QR | exact QT) ?_)
        | (with_reducible refine h.node0 _ _ _ fun w h => ?_)
        | (with_reducible refine RtN ?_)
      all_goals (first | (cases hm;exact hK _ _ (h.sub (by repeat first | exact List.Sublist.refl _ | apply List.Sublist.cons) (fun q hq=>by rcases List.mem_cons.1 hq with rfl | hq<;>simp only[List.mem_cons,true_or,or_true,hq]))) | exact hK _ _ (h.sub (by repeat first | exact List.Sublist.refl _ | apply List.Sublist.cons) (fun q hq=>by rcases List.mem_cons.1 hq with rfl | hq<;>simp only[List.mem_cons,true_or,or_true,hq])) | skip)
    rw[if_neg (ne_true_of_eq_false hb)] at hm
    refine JE (fun hb => ?_) (fun hb => ?_)
    · rw[if_pos hb] at hm
      refine h.ld_tkText JR (E.num h (E.now s) fun x w hx h=>h.bx fun b28 w h => ?_)
      refine FQ (h.heap JR) (Nat.le_of_ble_eq_true rfl) fun w' h' => ?_
      have hpc:ZI #[.bool false,.slice none 0 0] 0 x.x0.cells.toList=x.x0.cells:=QH rfl
      rw[hpc] at h'
      replace h:PM e w' s.inc A _ _:=⟨h.1.set (k:=0) rfl h',h.2⟩
      refine h.ld_tkAt QF (AfI (h.cells JR) (h.z2 fun w h=>h.lr_nd QP (RtN ?_)))
      cases hm
      have:=h.relabel JR 32 (ZN e.T s).At (⟨#[]⟩:ByteArray)
      exact hK _ _ (this.sub (by repeat first | exact List.Sublist.refl _ | apply List.Sublist.cons) (fun q hq=>by rcases List.mem_cons.1 hq with rfl | hq<;>simp only[List.mem_cons,true_or,or_true,hq]))
    rw[if_neg (ne_true_of_eq_false hb)] at hm
    refine JE (fun hb => ?_) (fun hb => ?_)
    · rw[if_pos hb] at hm
      repeat' first
        | (with_reducible refine h.z1 fun w h => ?_)
        | (with_reducible refine h.ld_tkText (by first | exact JR | exact QF | exact QP | exact QQ | exact QR | exact QT) ?_)
        | (with_reducible refine h.ld_tkAt (by first | exact JR | exact QF | exact QP | exact QQ | exact QR | exact QT) ?_)
        | (with_reducible refine h.lr_nd (by first | exact JR | exact QF | exact QP | exact QQ | exact QR | exact QT) ?_)
        | (with_reducible refine h.node0 _ _ _ fun w h => ?_)
        | (with_reducible refine RtN ?_)
      all_goals (first | (cases hm;exact hK _ _ (h.sub (by repeat first | exact List.Sublist.refl _ | apply List.Sublist.cons) (fun q hq=>by rcases List.mem_cons.1 hq with rfl | hq<;>simp only[List.mem_cons,true_or,or_true,hq]))) | exact hK _ _ (h.sub (by repeat first | exact List.Sublist.refl _ | apply List.Sublist.cons) (fun q hq=>by rcases List.mem_cons.1 hq with rfl | hq<;>simp only[List.mem_cons,true_or,or_true,hq])) | skip)
    rw[if_neg (ne_true_of_eq_false hb)] at hm
    refine JE (fun hb => ?_) (fun hb => ?_)
    · rw[if_pos hb] at hm
      repeat' first
        | (with_reducible refine h.z1 fun w h => ?_)
        | (with_reducible refine h.ld_tkText (by first | exact JR | exact QF | exact QP | exact QQ | exact QR | exact QT) ?_)
        | (with_reducible refine h.ld_tkAt (by first | exact JR | exact QF | exact QP | exact QQ | exact QR | exact QT) ?_)
        | (with_reducible refine h.lr_nd (by first | exact JR | exact QF | exact QP | exact QQ | exact QR | exact QT) ?_)
        | (with_reducible refine h.node0 _ _ _ fun w h => ?_)
        | (with_reducible refine RtN ?_)
      all_goals (first | (cases hm;exact hK _ _ (h.sub (by repeat first | exact List.Sublist.refl _ | apply List.Sublist.cons) (fun q hq=>by rcases List.mem_cons.1 hq with rfl | hq<;>simp only[List.mem_cons,true_or,or_true,hq]))) | exact hK _ _ (h.sub (by repeat first | exact List.Sublist.refl _ | apply List.Sublist.cons) (fun q hq=>by rcases List.mem_cons.1 hq with rfl | hq<;>simp only[List.mem_cons,true_or,or_true,hq])) | skip)
    rw[if_neg (ne_true_of_eq_false hb)] at hm
    repeat' first
      | (with_reducible refine h.z1 fun w h => ?_)
      | (with_reducible refine h.ld_tkText (by first | exact JR | exact QF | exact QP | exact QQ | exact QR | exact QT) ?_)
      | (with_reducible refine h.ld_tkAt (by first | exact JR | exact QF | exact QP | exact QQ | exact QR | exact QT) ?_)
      | (with_reducible refine h.lr_nd (by first | exact JR | exact QF | exact QP | exact QQ | exact QR | exact QT) ?_)
      | (with_reducible refine JE (fun hb => ?_) (fun hb => ?_)<;>first | rw[if_pos hb] at hm | rw[if_neg (ne_true_of_eq_false hb)] at hm | skip)
      | (with_reducible refine(hG.round _) h hm fun x w h => ?_)
      | (with_reducible refine(hG.square _) h hm fun x w h => ?_)
      | (with_reducible refine(hG.curly _) h hm fun x w h => ?_)
      | (with_reducible refine RtN ?_)
    all_goals (first | (cases hm;exact hK _ _ (h.sub (by repeat first | exact List.Sublist.refl _ | apply List.Sublist.cons) (fun q hq=>by rcases List.mem_cons.1 hq with rfl | hq<;>simp only[List.mem_cons,true_or,or_true,hq]))) | exact hK _ _ (h.sub (by repeat first | exact List.Sublist.refl _ | apply List.Sublist.cons) (fun q hq=>by rcases List.mem_cons.1 hq with rfl | hq<;>simp only[List.mem_cons,true_or,or_true,hq])) | skip)
  have hno:AmM (ZN e.T s)=(((ZN e.T s).Text.toList==(⟨#[110,111,116]⟩:ByteArray).toList && (ZN e.T s).Kind==2) || ((ZN e.T s).Text.toList==(⟨#[45]⟩:ByteArray).toList && (ZN e.T s).Kind==5)):=rfl
  refine JE (fun hb => ?_) (fun hb => ?_)
  · exact bad (by rw[hb];rfl) h
  have hbg:MT num e.T s=true:=by simpa using hb
  refine h.ld_tkText JR (JE (fun hb1 => ?_) (fun hb1 => ?_))
  · refine h.ld_tkKind JR (JE (fun hb2 => ?_) (fun hb2 => ?_))
    · exact bad (by rw[hno,hb1,hb2];simp) h
    · refine h.ld_tkText JR (JE (fun hb3 => ?_) (fun hb3 => ?_))
      · refine h.ld_tkKind JR (JE (fun hb4 => ?_) (fun hb4 => ?_))
        · exact bad (by rw[hno,hb3,hb4];simp) h
        · exact k0 hbg (by rw[hno,hb2,hb4];simp) h
      · exact k0 hbg (by rw[hno,hb2,hb3];simp) h
  · refine h.ld_tkText JR (JE (fun hb3 => ?_) (fun hb3 => ?_))
    · refine h.ld_tkKind JR (JE (fun hb4 => ?_) (fun hb4 => ?_))
      · exact bad (by rw[hno,hb3,hb4];simp) h
      · exact k0 hbg (by rw[hno,hb1,hb4];simp) h
    · exact k0 hbg (by rw[hno,hb1,hb3];simp) h
end
end Go.Proofs.YtjiagmjfnbljjaaGreatDoor
end
section
namespace Go.Proofs.YtjiagmjfnbljjaaGreatDoor
open Go
set_option maxHeartbeats 4000000
set_option linter.unusedVariables false
set_option linter.unusedSimpArgs false
set_option linter.unusedSectionVars false
theorem NdC.no{e:Pe}{C:(JA→World→Prop)→World→Prop}:NdC e C (fun _=>none):=by
  intro w s A l r n s' K _ h
  cases h
theorem AnZ{T:List Tk}{s:PS}:∀ {ts:List ByteArray},BS T s ts∈ts∨BS T s ts=⟨#[]⟩
  | []=>.inr rfl
  | t :: ts=>by
    rw[Aia]
    by_cases ht:isP T 5 t s=true
    · rw[if_pos ht];exact .inl (by simp)
    · rw[if_neg ht]
      rcases AnZ (T:=T) (s:=s) (ts:=ts) with h | h
      · exact .inl (by simp[h])
      · exact .inr h
section
variable{e:Pe}{num:ByteArray→(Bool×List Int)×Bool}(E:AgW e num){g:Nat}(hG:TZ e num g)(hg:4 * g+4≤2147483648)
include E hG hg
theorem Ant ⦃w:World⦄ ⦃s:PS⦄ ⦃A:Acc⦄ ⦃l:List En⦄ ⦃r:Rp⦄ ⦃n m:Nd⦄ ⦃x:JA⦄ ⦃s':PS⦄ ⦃K:JA→World→Prop⦄ (h:PM e w s A l r) (hx:(n,x)∈r) (hm:NI e.T (lv num e.T g) n s=some (m,s')) (hK:∀ y w',PM e w' s' A l ((m,y) :: r)→K y w'):AJ (some ⟨e.bs,0,none⟩) x K w:=by
  refine Aae _ _ _ _ ?_
  unfold KX
  unfold NI at hm
  replace h:PM e w s A l ((n,x) :: r):=h.sub (List.Sublist.refl _) fun q hq=>by
    rcases List.mem_cons.1 hq with rfl | hq
    · exact hx
    · exact hq
  refine h.bx fun b1 w h => ?_
  replace h:PM e w s A (ndE b1 x :: l) ((n,x) :: r):=h
  refine h.bx fun b2 w h => ?_
  have b0:∀ {w:World},PM e w s A (zNd b2 :: ndE b1 x :: l) ((n,x) :: r)→some (n,DN s 108 n.at_)=some (m,s')→DO (Rt JQ K) (some ⟨e.bs,0,none⟩) ⟨b1,0,none⟩ ⟨b2,0,none⟩ w:=by
    intro w h hm
    unfold DO
    repeat' first
      | (with_reducible refine h.z0 fun w h => ?_)
      | (with_reducible refine h.ld_nd (by first | exact JR | exact QF | exact QP | exact QQ | exact QR | exact QT) ?_)
      | (with_reducible refine h.ld_ndAt (by first | exact JR | exact QF | exact QP | exact QQ | exact QR | exact QT) (by first | exact JR | exact QF | exact QP | exact QQ | exact QR | exact QT) ?_)
      | (with_reducible refine h.lr_nd (by first | exact JR | exact QF | exact QP | exact QQ | exact QR | exact QT) ?_)
      | (with_reducible refine h.fault _ _ fun w h => ?_)
      | (with_reducible refine RtN ?_)
    all_goals (first | (cases hm;exact hK _ _ (h.sub (by repeat first | exact List.Sublist.refl _ | apply List.Sublist.cons) (fun q hq=>by rcases List.mem_cons.1 hq with rfl | hq<;>simp only[List.mem_cons,true_or,or_true,hq]))) | exact hK _ _ (h.sub (by repeat first | exact List.Sublist.refl _ | apply List.Sublist.cons) (fun q hq=>by rcases List.mem_cons.1 hq with rfl | hq<;>simp only[List.mem_cons,true_or,or_true,hq])) | skip)
  refine h.sign _ fun w h=>JE (fun hb => ?_) (fun hb => ?_)
  · rw[if_pos hb] at hm
    have hlt:s.i<e.T.length:=AmU (by decide) hb
    refine h.ld_nd QF (h.target JR fun w h=>JE (fun hb1 => ?_) (fun hb1 => ?_))
    · rw[if_pos hb1] at hm
      repeat' first
        | (with_reducible refine h.bx fun b w h => ?_)
        | (with_reducible refine h.dw fun w h => ?_)
        | (with_reducible refine h.z0 fun w h => ?_)
        | (with_reducible refine h.lr_nd (by first | exact JR | exact QF | exact QP | exact QQ | exact QR | exact QT) ?_)
        | (with_reducible refine h.exS ?_)
        | (with_reducible refine Sof.ld_nd (by first | exact JR | exact QF | exact QP | exact QQ | exact QR | exact QT) ?_)
        | (with_reducible refine Sof.ld_ndAt3 h (by first | exact JR | exact QF | exact QP | exact QQ | exact QR | exact QT) (by first | exact JR | exact QF | exact QP | exact QQ | exact QR | exact QT) ?_)
        | (with_reducible refine⟨h.sof0,?_⟩)
        | (with_reducible refine⟨h.sof1,?_⟩)
        | (with_reducible refine h.inc ‹_› fun w h => ?_)
        | (with_reducible refine(h.k2 (by first | exact JR | exact QF | exact QP | exact QQ | exact QR | exact QT) (by first | exact JR | exact QF | exact QP | exact QQ | exact QR | exact QT)).node _ _ _ fun w h => ?_)
        | ((with_reducible refine hG.exprs.bind h hm fun p s1 x w hm h => ?_);try dsimp only at hm)
        | (with_reducible refine RtN ?_)
      all_goals (first | (cases hm;exact hK _ _ (h.sub (by repeat first | exact List.Sublist.refl _ | apply List.Sublist.cons) (fun q hq=>by rcases List.mem_cons.1 hq with rfl | hq<;>simp only[List.mem_cons,true_or,or_true,hq]))) | exact hK _ _ (h.sub (by repeat first | exact List.Sublist.refl _ | apply List.Sublist.cons) (fun q hq=>by rcases List.mem_cons.1 hq with rfl | hq<;>simp only[List.mem_cons,true_or,or_true,hq])) | skip)
    · rw[if_neg (ne_true_of_eq_false hb1)] at hm
      have hkn:=h.kidsN JR
      refine h.ld_ndKind QF JR (JE (fun hb2 => ?_) (fun hb2 => ?_))
      · rw[if_pos (by rw[hb2];rfl)] at hm
        exact b0 h hm
      · refine h.ld_ndKids QF (JE (fun hb3 => ?_) (fun hb3 => ?_))
        · rw[if_pos (by rw[hb2];simp at hb3 ⊢;omega)] at hm
          exact b0 h hm
        · rw[if_neg (by rw[hb2];simp at hb3 ⊢;omega)] at hm
          unfold CV
          refine YE (fun c i w'=>∃ k:Nat,i=k∧c+k=n.kids.length∧PM e w' s A (zNd b2 :: ndE b1 x :: l) ((n,x) :: r)∧(n.kids.take k).all BG=true) n.kids.length 0 rfl ⟨0,rfl,rfl,h,by simp⟩ ?_
          clear h
          rintro c i w ⟨k,rfl,hc,h,hall⟩ again hag
          refine h.ld_ndKids QF (JE (fun hb4 => ?_) (fun hb4 => ?_))
          · have hlt4:k<n.kids.length:=by simp at hb4;omega
            have hget:n.kids[k]? = some n.kids[k]:=List.getElem?_eq_getElem hlt4
            refine h.ld_ndKids QF (h.kidNd JR hget fun y h=>h.target JR fun w h=>JE (fun hb5 => ?_) (fun hb5 => ?_))
            · rw[if_neg (by rw[Ap9 BG n.kids k hlt4 (by simpa using hb5)];decide)] at hm
              replace h:PM e w s A (zNd b2 :: ndE b1 x :: l) ((n,x) :: r):=h.sub (List.Sublist.refl _) fun q hq=>List.mem_cons_of_mem _ hq
              clear hb hb1 hb2 hb3 hb4
              repeat' first
                | (with_reducible refine h.z0 fun w h => ?_)
                | (with_reducible refine h.ld_nd (by first | exact JR | exact QF | exact QP | exact QQ | exact QR | exact QT) ?_)
                | (with_reducible refine h.ld_ndAt (by first | exact JR | exact QF | exact QP | exact QQ | exact QR | exact QT) (by first | exact JR | exact QF | exact QP | exact QQ | exact QR | exact QT) ?_)
                | (with_reducible refine h.lr_nd (by first | exact JR | exact QF | exact QP | exact QQ | exact QR | exact QT) ?_)
                | (with_reducible refine h.fault _ _ fun w h => ?_)
                | (with_reducible refine RtN ?_)
              all_goals (first | (cases hm;exact hK _ _ (h.sub (by repeat first | exact List.Sublist.refl _ | apply List.Sublist.cons) (fun q hq=>by rcases List.mem_cons.1 hq with rfl | hq<;>simp only[List.mem_cons,true_or,or_true,hq]))) | exact hK _ _ (h.sub (by repeat first | exact List.Sublist.refl _ | apply List.Sublist.cons) (fun q hq=>by rcases List.mem_cons.1 hq with rfl | hq<;>simp only[List.mem_cons,true_or,or_true,hq])) | skip)
            · have hlen:n.kids.length≤4611686018427387904∨True:=.inr trivial
              have hsz:(k:Int)+1≤9223372036854775807:=by
                have:=h.kidsB QF
                omega
              rw[JY (by omega) (by omega)]
              exact hag (c - 1) ((k:Int)+1) _ (by omega) ⟨k+1,by omega,by omega,h.sub (List.Sublist.refl _) (fun q hq=>List.mem_cons_of_mem _ hq),Alu BG n.kids k hlt4 hall (by simpa using hb5)⟩
          · have hk:k=n.kids.length:=by simp at hb4;omega
            rw[hk,List.take_length] at hall
            rw[if_pos hall] at hm
            refine h.inc hlt fun w h=>h.dw fun w h=>h.exS (Sof.ld_ndAt3 h QF JR (Sof.ld_ndAt3 h QF JR (Sof.ld_ndKids QF ?_)))
            refine h.nodeK JR _ _ _ fun w h=>⟨h.sof0,?_⟩
            clear hb hb1 hb2 hb3 hb4
            repeat' first
              | (with_reducible refine h.bx fun b w h => ?_)
              | (with_reducible refine h.z0 fun w h => ?_)
              | (with_reducible refine h.lr_nd (by first | exact JR | exact QF | exact QP | exact QQ | exact QR | exact QT) ?_)
              | (with_reducible refine⟨h.sof0,?_⟩)
              | (with_reducible refine⟨h.sof1,?_⟩)
              | (with_reducible refine(h.k2 (by first | exact JR | exact QF | exact QP | exact QQ | exact QR | exact QT) (by first | exact JR | exact QF | exact QP | exact QQ | exact QR | exact QT)).node _ _ _ fun w h => ?_)
              | ((with_reducible refine hG.exprs.bind h hm fun p s1 x w hm h => ?_);try dsimp only at hm)
              | (with_reducible refine RtN ?_)
            all_goals (first | (cases hm;exact hK _ _ (h.sub (by repeat first | exact List.Sublist.refl _ | apply List.Sublist.cons) (fun q hq=>by rcases List.mem_cons.1 hq with rfl | hq<;>simp only[List.mem_cons,true_or,or_true,hq]))) | exact hK _ _ (h.sub (by repeat first | exact List.Sublist.refl _ | apply List.Sublist.cons) (fun q hq=>by rcases List.mem_cons.1 hq with rfl | hq<;>simp only[List.mem_cons,true_or,or_true,hq])) | skip)
  · rw[if_neg (ne_true_of_eq_false hb)] at hm
    refine h.bx fun b51 w h=>h.one (ts:=OJ) rfl rfl (by decide) fun w h=>JE (fun hb1 => ?_) (fun hb1 => ?_)
    · rw[if_pos hb1] at hm
      repeat' first
        | (with_reducible refine h.bx fun b w h => ?_)
        | (with_reducible refine h.z0 fun w h => ?_)
        | (with_reducible refine h.ld_nd (by first | exact JR | exact QF | exact QP | exact QQ | exact QR | exact QT) ?_)
        | (with_reducible refine h.ld_ndAt (by first | exact JR | exact QF | exact QP | exact QQ | exact QR | exact QT) (by first | exact JR | exact QF | exact QP | exact QQ | exact QR | exact QT) ?_)
        | (with_reducible refine h.lr_nd (by first | exact JR | exact QF | exact QP | exact QQ | exact QR | exact QT) ?_)
        | (with_reducible refine(h.k1 (by first | exact JR | exact QF | exact QP | exact QQ | exact QR | exact QT)).node _ _ _ fun w h => ?_)
        | (with_reducible refine RtN ?_)
      all_goals (first | (cases hm;exact hK _ _ (h.sub (by repeat first | exact List.Sublist.refl _ | apply List.Sublist.cons) (fun q hq=>by rcases List.mem_cons.1 hq with rfl | hq<;>simp only[List.mem_cons,true_or,or_true,hq]))) | exact hK _ _ (h.sub (by repeat first | exact List.Sublist.refl _ | apply List.Sublist.cons) (fun q hq=>by rcases List.mem_cons.1 hq with rfl | hq<;>simp only[List.mem_cons,true_or,or_true,hq])) | skip)
    · rw[if_neg (ne_true_of_eq_false hb1)] at hm
      have hlt:s.i<e.T.length:=Ajx (by rw[hb1];rfl)
      have hne:BS e.T s OJ∈OJ:=by
        rcases AnZ (T:=e.T) (s:=s) (ts:=OJ) with h | h
        · exact h
        · rw[h] at hb1;simp at hb1
      have hsz:1≤(BS e.T s OJ).size∧(BS e.T s OJ).size≤3:=by
        generalize BS e.T s OJ=op at hne
        simp only[OJ,List.mem_cons,List.not_mem_nil,or_false] at hne
        rcases hne with rfl | rfl | rfl | rfl | rfl | rfl | rfl | rfl<;>decide
      refine h.ld_nd QF (h.target JR fun w h=>JE (fun hb2 => ?_) (fun hb2 => ?_))
      · rw[if_pos hb2] at hm
        repeat' first
          | (with_reducible refine h.z0 fun w h => ?_)
          | (with_reducible refine h.ld_nd (by first | exact JR | exact QF | exact QP | exact QQ | exact QR | exact QT) ?_)
          | (with_reducible refine h.ld_ndAt (by first | exact JR | exact QF | exact QP | exact QQ | exact QR | exact QT) (by first | exact JR | exact QF | exact QP | exact QQ | exact QR | exact QT) ?_)
          | (with_reducible refine h.lr_nd (by first | exact JR | exact QF | exact QP | exact QQ | exact QR | exact QT) ?_)
          | (with_reducible refine h.fault _ _ fun w h => ?_)
          | (with_reducible refine RtN ?_)
        all_goals (first | (cases hm;exact hK _ _ (h.sub (by repeat first | exact List.Sublist.refl _ | apply List.Sublist.cons) (fun q hq=>by rcases List.mem_cons.1 hq with rfl | hq<;>simp only[List.mem_cons,true_or,or_true,hq]))) | exact hK _ _ (h.sub (by repeat first | exact List.Sublist.refl _ | apply List.Sublist.cons) (fun q hq=>by rcases List.mem_cons.1 hq with rfl | hq<;>simp only[List.mem_cons,true_or,or_true,hq])) | skip)
      · rw[if_neg (ne_true_of_eq_false hb2)] at hm
        refine h.inc hlt fun w h=>h.dw fun w h=>h.exS (Sof.ld_ndAt3 h QF JR ?_)
        have hw:IntKind.i64.wrap (((BS e.T s OJ).size:Int) - 1)=(((BS e.T s OJ).size - 1:Nat):Int):=by
          rw[JY (by omega) (by omega)];omega
        rw[hw]
        refine VQ (h:=EB) (Aps (BS e.T s OJ)) (fun w' _ => ?_) (Sof.ld_nd QF ?_)
        · have:=Aih (P:=PP) (w:=w') (t:=9) Tryz.underlying9 (BS e.T s OJ) (((BS e.T s OJ).size - 1:Nat):Int) (by omega) (by omega)
          rw[this]
          show Result.ok (Value.string _) w'=Result.ok (Value.string _) w'
          congr 2
        · clear hb hb1 hb2
          repeat' first
            | (with_reducible refine h.bx fun b w h => ?_)
            | (with_reducible refine h.z0 fun w h => ?_)
            | (with_reducible refine h.lr_nd (by first | exact JR | exact QF | exact QP | exact QQ | exact QR | exact QT) ?_)
            | (with_reducible refine⟨h.sof0,?_⟩)
            | (with_reducible refine⟨h.sof1,?_⟩)
            | (with_reducible refine(h.k2 (by first | exact JR | exact QF | exact QP | exact QQ | exact QR | exact QT) (by first | exact JR | exact QF | exact QP | exact QQ | exact QR | exact QT)).node _ _ _ fun w h => ?_)
            | ((with_reducible refine hG.exprs.bind h hm fun p s1 x w hm h => ?_);try dsimp only at hm)
            | (with_reducible refine RtN ?_)
          all_goals (first | (cases hm;exact hK _ _ (h.sub (by repeat first | exact List.Sublist.refl _ | apply List.Sublist.cons) (fun q hq=>by rcases List.mem_cons.1 hq with rfl | hq<;>simp only[List.mem_cons,true_or,or_true,hq]))) | exact hK _ _ (h.sub (by repeat first | exact List.Sublist.refl _ | apply List.Sublist.cons) (fun q hq=>by rcases List.mem_cons.1 hq with rfl | hq<;>simp only[List.mem_cons,true_or,or_true,hq])) | skip)
omit hG hg E in
theorem TZ.all(E:AgW e num):∀ f,4 * f+8≤2147483648→TZ e num f:=by
  intro f
  induction f using Nat.strongRecOn with
  | ind f ih=>
    intro hf
    have hT:∀ g,g<f→TZ e num g:=fun g hg=>ih g hg (by omega)
    have more:=Atn E hT hf
    have items:=ArK E hT hf
    have comp:=As4 E hT hf
    have names:=ArY E hT hf
    have and_:=Auq E hT hf
    have or_:=AvM E hT hf
    have post:=Ao0 E hT hf
    have block:=Ari E hT hf
    have args:=AsW E hT hf
    have params:=AqI E hT hf
    have caught:=Aqf E hT hf
    have targets:=Apc E hT hf
    have row:=Avn E hT hf
    cases f with
    | zero=>
      refine⟨NdC.no,or_,and_,NdC.no,NdC.no,row,NdC.no,post,NdC.no,fun _=>NdC.no,fun _=>NdC.no,fun _=>NdC.no,more,comp,NdC.no,items,args,NdC.no,targets,NdC.no,block,fun _=>NdC.no,caught,NdC.no,names,params,?_⟩
      intro w s A l r n m x s' K _ _ h
      cases h
    | succ g=>
      have hG:=hT g (by omega)
      have hg:4 * g+4≤2147483648:=by omega
      exact⟨As9 E hG hg,or_,and_,Au7 E hG hg,AoG E hG hg,row,ArV E hG hg,post,AsZ E hG hg,Ask E hG hg,AqY E hG hg,Arr E hG hg,more,comp,Atd E hG hg,items,args,ArC E hG hg,targets,AqS E hG hg,block,Aqg E hG hg,caught,AtZ E hG hg,names,params,Ant E hG hg⟩
end
end Go.Proofs.YtjiagmjfnbljjaaGreatDoor
end
section
namespace Go.Proofs.YtjiagmjfnbljjaaGreatDoor
open Go
set_option maxHeartbeats 4000000
set_option linter.unusedVariables false
set_option linter.unusedSimpArgs false
set_option linter.unusedSectionVars false
def Aea:List Nd→Int
  | []=>0
  | n :: _=>n.at_
def Aeq(num:ByteArray→(Bool×List Int)×Bool)(T:List Tk)(f:Nat):Option (Nd×Int×Int):=
  ((lv num T f).parseL [] ⟨0,0,0⟩).bind fun p=>
  if p.2.bad then some (nod 0 0 (⟨#[]⟩:ByteArray) [],p.2.code,p.2.at_) else
  match AmP 300 (nod 1 0 (⟨#[]⟩:ByteArray) [nod 2 (Aea p.1) (⟨#[]⟩:ByteArray) p.1]) with
  | some a=>some (nod 0 0 (⟨#[]⟩:ByteArray) [],107,a)
  | none=>some (nod 1 0 (⟨#[]⟩:ByteArray) [nod 2 (Aea p.1) (⟨#[]⟩:ByteArray) p.1],0,0)
theorem Aqm(m:Nat)(n:Nd):AmP (m+1) n=n.kids.findSome? (AmP m):=rfl
theorem ArD:∀ (m:Nat),m≤1000→∀ {w:World} {B:Nat} {n:Nd} {x:JA},n.wt≤2147483648→Rep w B n x→∀ {K:UT→World→Prop},(∀ w',Ext w w'→K (match AmP m n with
    | some a=>⟨a,true⟩
    | none=>⟨0,false⟩) w')→Aai x (m:Int) K w
  | 0,_,w,B,n,x,hw,hr,K,hK=>by
    refine Adx _ _ _ _ ?_
    unfold AdO
    intro a1 w1 h1
    refine VF (by decide) ?_
    refine JO (h1.cells 1 _ rfl) ?_
    refine Rt.mk (h:=AX) ⟨x.At,true⟩ ?_
    rw[hr.at_]
    exact hK w1 h1.fr
  | m+1,hm,w,B,n,x,hw,hr,K,hK=>by
    refine Adx _ _ _ _ ?_
    unfold AdO
    intro a1 w1 h1
    refine ZH (by simp;omega) ?_
    rw[Aqm] at hK
    have hc:=h1.cells
    have hr1:=hr.ext h1.fr
    have e1:=h1.fr
    have hs:=hr1.kids
    have hs1:=hs.1
    have hlen:n.kids.length≤2147483648:=by
      have:=Nd.wts_length n.kids
      have:=Nd.wts_lt n
      omega
    refine YE (fun c i w'=>Ext w1 w'∧∃ k:Nat,i=k∧c+k=n.kids.length∧n.kids.findSome? (AmP m)=(n.kids.drop k).findSome? (AmP m)) n.kids.length 0 rfl ⟨Ext.refl _,0,rfl,rfl,rfl⟩ ?_
    rintro c i w2 ⟨e2,k,rfl,hc2,hfs⟩ again hag
    refine MX hc e2 (JE (fun hb => ?_) (fun hb => ?_))
    · have hlt:k<n.kids.length:=by simp at hb;omega
      refine MX hc e2 (AaA (hs.ext e2) hlt fun y hy => ?_)
      have hkw:n.kids[k].wt<n.wt:=Nd.wt_lt (List.getElem_mem hlt)
      have hmm:IntKind.i64.wrap (((m+1:Nat):Int) - 1)=(m:Int):=by rw[JY (by omega) (by omega)];omega
      rw[hmm]
      rw[List.drop_eq_getElem_cons hlt,List.findSome?_cons] at hfs
      refine ArD m (by omega) (by omega) hy fun w3 e3 => ?_
      cases hf:AmP m n.kids[k] with
      | some a=>
        rw[hf] at hfs
        refine VF rfl (Rt.mk (h:=AX) ⟨a,true⟩ ?_)
        have:=hK w3 (e1.trans (e2.trans e3))
        rw[hfs] at this;exact this
      | none=>
        rw[hf] at hfs
        refine ZH rfl ?_
        rw[ZS (n:=n.kids.length) (by omega) (by omega) (by omega)]
        exact hag (c - 1) ((k:Int)+1) w3 (by omega) ⟨e2.trans e3,k+1,by omega,by omega,hfs⟩
    · have hk:n.kids.length≤k:=by simp at hb;omega
      rw[List.drop_eq_nil_of_le hk] at hfs
      refine Rt.mk (h:=AX) ⟨0,false⟩ ?_
      have:=hK w2 (e1.trans e2)
      rw[hfs] at this;exact this
def Anr(w0 w:World)(n:Nd)(x:JA):Prop:=Ext w0 w∧AA w (fun i=>w0.heap.size≤i∧i<w.heap.size) n x
theorem Anr.rep{w0 w:World}{n:Nd}{x:JA}(h:Anr w0 w n x):Rep w w.heap.size n x:=AA.rep (fun _ h=>h.2) _ _ h.2
theorem PM.tree{e:Pe}{w:World}{s:PS}{A:Acc}{l:List En}{r:Rp}(h:PM e w s A l r){n:Nd}{x:JA}(hx:(n,x)∈r):Anr e.w0 w n x:=by
  obtain⟨⟨xss,r1,hz,I,h1,h2,h3⟩,hi⟩:=h
  exact⟨h2,AA.keep (Ext.refl w) (fun _ _ h=>h) (fun i hi=>⟨h1.ge i hi,h1.lt i hi⟩) _ _ (h3 (n,x) (List.mem_append_right _ hx))⟩
def Alm:JA:=⟨0,0,(⟨#[]⟩:ByteArray),false,⟨none,0,0⟩,⟨none,0,0⟩⟩
theorem Aq9{w:World}{L:Sl}{T:List Tk}{num:ByteArray→(Bool×List Int)×Bool}(hT:Anq w L T)(htx:∀ t∈T,t.Text.size≤2147483648)(hnum:Aq8 num){f:Nat}(hf:4 * f+8≤2147483648){out:Nd×Int×Int}(hm:Aeq num T f=some out)
    (hwt:∀ p,(lv num T f).parseL [] ⟨0,0,0⟩=some p→Nd.wts p.1≤2147483000)
    {K:ZT→World→Prop} (hK:∀ x w',Anr w w' out.1 x→K ⟨x,⟨out.2.1,out.2.2⟩⟩ w'):AaL L K w:=by
  refine Ahw _ _ _ ?_
  unfold Afm
  intro a1 w1 h1 a2 w2 h2 a3 w3 h3
  have hz1:=h1.size
  have hz2:=h2.size
  have ha1:=h1.addr
  have ha2:=h2.addr
  have ha3:=h3.addr
  subst ha1 ha2 ha3
  let e:Pe:=⟨w,L,T,w2.heap.size,hT⟩
  have E:AgW e num:=⟨htx,hnum⟩
  have hX:(XP w []).p (fun _=>False) w:=⟨Ext.refl w,nofun⟩
  have hm0:Mz w.heap.size (XP w []) w []:=⟨_,Mx.nil (Nat.le_refl _),hX⟩
  have hm3:=((hm0.new h1).new h2).new h3
  have h0:PM e w3 ⟨0,0,0⟩ [] [.box w1.heap.size (.cells #[.int .i64 0,.int .i64 0] 32),zNd w.heap.size] []:=⟨⟨[],[],trivial,hm3⟩,Nat.zero_le _⟩
  have hbs:(some ⟨w2.heap.size,0,none⟩:Option Addr)=some ⟨e.bs,0,none⟩:=rfl
  rw[hbs]
  generalize hw1:w1.heap.size=b2 at h0 ⊢
  generalize hw0:w.heap.size=b1 at h0 ⊢
  unfold Aeq at hm
  obtain⟨⟨q,s2⟩,hq,hm⟩:=Option.bind_eq_some_iff.1 hm
  have hwq:=hwt _ hq
  dsimp only at hm hwq
  have hq':(lv num e.T f).parseL [] ⟨0,0,0⟩=some (q,s2):=hq
  refine YE (fun n x w'=>∃ s1 ns1,PM e w' s1 ((x,ns1) :: []) [.box b2 (.cells #[.int .i64 0,.int .i64 0] 32),zNd b1] []∧ns1.length+4 * n≤2147483648∧n≤f∧(lv num e.T n).parseL ns1 s1=some (q,s2)) f ⟨none,0,0⟩ rfl ⟨_,_,h0.acc0,by simp only[List.length_nil];omega,Nat.le_refl _,hq'⟩ ?_
  clear hq hq' hwt h0
  rintro n x w' ⟨s,ns,h,hl,hn,hq⟩ again hag
  cases n with
  | zero=>cases hq
  | succ g=>
    have hG:TZ e num g:=TZ.all E g (by omega)
    have hg:4 * g+4≤2147483648:=by omega
    replace hq:Acz e.T (lv num e.T g) ns s=some (q,s2):=hq
    unfold Acz at hq
    have fin:∀ {w':World},PM e w' s ((x,ns) :: []) [.box b2 (.cells #[.int .i64 0,.int .i64 0] 32),zNd b1] []→some (ns,s)=some (q,s2)→CL (Rt ZQ K) ⟨b1,0,none⟩ ⟨b2,0,none⟩ (some ⟨e.bs,0,none⟩) x w':=by
      intro w' h hq
      cases hq
      unfold CL
      have setF:∀ {w':World} {x0:JA} {r0:Rp} {A0:Acc} {cs:Array Value} (c a:Int) {K2:World→Prop},PM e w' s2 A0 [.box b2 (.cells cs 32),ndE b1 x0] r0→cs.size=2→(∀ w'',PM e w'' s2 A0 [.box b2 (.cells (QI.cells ⟨c,a⟩) 32),ndE b1 x0] r0→K2 w'')→ZO ⟨b2,0,none⟩ ⟨c,a⟩ K2 w':=by
        intro w' x0 r0 A0 cs c a K2 h hcs hk
        refine YH (h.heap JR) (by omega) fun w'' h''=>hk w'' ?_
        rw[QH (hcs.trans rfl)] at h''
        exact⟨h.1.set (k:=0) rfl h'',h.2⟩
      refine h.bad (JE (fun hb => ?_) (fun hb => ?_))
      · rw[if_pos hb] at hm
        cases hm
        refine h.dw fun w' h => ?_
        refine⟨fun w''=>JD w'' ⟨e.bs,0,none⟩ [e.L.v,.int .i64 s2.i,.int .i64 s2.code,.int .i64 s2.at_],h.1.cellsS,JM rfl ?_⟩
        refine CQ (x:=⟨s2.code,s2.at_⟩) (fun w'' hs=>Aah hs 2 fun i v hi => ?_) ?_
        · match i,hi with
          | 0,hi=>exact hi
          | 1,hi=>exact hi
          | n+2,hi=>simp[QI.cells] at hi
        refine h.z1 fun w' h=>⟨h.1.cellsS,setF _ _ h rfl fun w' h=>h.lr_nd QF (UH (h.cells JR) (Rt.mk (h:=ZQ) ⟨_,_⟩ (hK Alm w' ?_)))⟩
        exact PM.tree (PM.leaf h 0 0 (⟨#[]⟩:ByteArray)) JR
      · rw[if_neg (ne_true_of_eq_false hb)] at hm
        have k2:∀ {w':World} (a:Int),a=Aea q→PM e w' s2 ((x,q) :: []) [.box b2 (.cells #[.int .i64 0,.int .i64 0] 32),zNd b1] []→CM (Rt ZQ K) ⟨b1,0,none⟩ ⟨b2,0,none⟩ x a w':=by
          intro w' a ha h
          rw[← ha] at hm
          unfold CM
          refine h.node _ _ _ fun w' h=>h.bx fun b32 w' h=>(h.k1 JR).node _ _ _ fun w' h=>h.bx fun b34 w' h=>h.z0 fun w' h=>h.ld_nd JR ?_
          have ht:=h.tree JR
          have hwm:(nod 1 0 (⟨#[]⟩:ByteArray) [nod 2 a (⟨#[]⟩:ByteArray) q]).wt≤2147483648:=by
            simp only[nod,Nd.wt,Nd.wts,List.length_nil]
            have:((⟨#[]⟩:ByteArray):ByteArray).size=0:=rfl
            omega
          have:=ArD 300 (by decide) hwm ht.rep (K:=fun x36 w=>br (x36.x1)
                  (JC ⟨b1,0,none⟩ ⟨0,0,(⟨#[]⟩:ByteArray),false,⟨none,0,0⟩,⟨none,0,0⟩⟩ (fun w=>
                    ZO ⟨b2,0,none⟩ ⟨107,x36.x0⟩ (fun w=>
                      JG ⟨b1,0,none⟩ (fun r37=>
                        XS ⟨b2,0,none⟩ (fun r38=>
                          Rt ZQ K (.tuple #[r37.v,r38.v]) w) w) w) w) w)
                  (JF ⟨b34,0,none⟩ (fun(x39:JA) w=>
                    JC ⟨b1,0,none⟩ x39 (fun w=>
                      ZO ⟨b2,0,none⟩ ⟨0,0⟩ (fun w=>
                        JG ⟨b1,0,none⟩ (fun r40=>
                          XS ⟨b2,0,none⟩ (fun r41=>
                            Rt ZQ K (.tuple #[r40.v,r41.v]) w) w) w) w) w) w))
          refine this fun w4 e4 => ?_
          replace h:=h.ext e4
          cases hfar:AmP 300 (nod 1 0 (⟨#[]⟩:ByteArray) [nod 2 a (⟨#[]⟩:ByteArray) q]) with
          | some d=>
            rw[hfar] at hm
            cases hm
            refine VF rfl (h.z2 fun w' h => ?_)
            replace h:=h.un
            refine setF _ _ h rfl fun w' h=>h.lr_nd QF (UH (h.cells JR) (Rt.mk (h:=ZQ) ⟨_,_⟩ (hK Alm w' ?_)))
            exact PM.tree (PM.leaf h 0 0 (⟨#[]⟩:ByteArray)) JR
          | none=>
            rw[hfar] at hm
            cases hm
            refine ZH rfl (h.ld_nd JR (h.z2 fun w' h => ?_))
            replace h:=h.un
            refine setF _ _ h rfl fun w' h=>h.lr_nd QF (UH (h.cells JR) (Rt.mk (h:=ZQ) ⟨_,_⟩ (hK _ w' (h.tree JR))))
        have hln:=h.accLen
        cases q with
        | nil=>exact ZH (by simp at hln ⊢;omega) (k2 0 rfl h)
        | cons n0 q=>exact VF (by simp at hln ⊢;omega) (h.accAt0 (k2 _ rfl h))
    refine h.bad (JE (fun hb => ?_) (fun hb => ?_))
    · refine h.now fun w' h=>JE (fun hb1 => ?_) (fun hb1 => ?_)
      · rw[if_pos (by rw[hb,hb1];rfl)] at hq
        unfold Abk
        obtain⟨⟨p2,s3⟩,hp2,hq⟩:=Option.bind_eq_some_iff.1 hq
        dsimp only at hq hp2
        refine hG.stmt h hp2 fun x2 w h=>h.bx fun b w h=>h.push JR (by omega) fun sl w h => ?_
        exact hag g _ _ (Nat.lt_succ_self _) ⟨_,_,h.sub (List.Sublist.refl _) (fun q hq=>by simp only[List.mem_cons,hq,or_true]),(by simp only[List.length_append,List.length_cons,List.length_nil];omega),(by omega),hq⟩
      · rw[if_neg (by rw[hb1];simp)] at hq
        exact fin h hq
    · rw[if_neg (by rw[hb];simp)] at hq
      exact fin h hq
end Go.Proofs.YtjiagmjfnbljjaaGreatDoor
end
