/- Lemmas for the statement proved in the last of these texts: part 11 of 25. Conditions: none. -/
import Derived.Test.YtjiagmjfnbljjaaGreatDoorGaj
import Derived.Test.YtjiagmjfnbljjaaGreatDoorGah
section
namespace Go.Proofs.YtjiagmjfnbljjaaGreatDoor
open Go
set_option maxHeartbeats 4000000
set_option linter.unusedVariables false
set_option linter.unusedSectionVars false
section
variable{T:List Tk}{hi lo:Int}{i0 j:Nat}
theorem PR{c:Prop}[Decidable c]{a b:Option (Nd×PS)}(ha:S1 T hi i0 a)(hb:S1 T hi i0 b):S1 T hi i0 (if c then a else b):=by split<;>assumption
theorem Aij{c:Prop}[Decidable c]{a b:Option (List Nd×PS)}(ha:SL T hi lo i0 a)(hb:SL T hi lo i0 b):SL T hi lo i0 (if c then a else b):=by split<;>assumption
theorem NW{o:Option (Nd×PS)}{f:Nd×PS→Option (Nd×PS)}(h:E1 hi j o)(hj:i0≤j)(c:∀ n s',i0≤s'.i→n.All (Rg hi)→n.dec = []→S1 T hi i0 (f (n,s'))):S1 T hi i0 (o.bind f):=fun n s' he=>by
  obtain⟨⟨m,s1⟩,h1,h2⟩:=Option.bind_eq_some_iff.1 he
  obtain⟨q1,q2,q3⟩:=h m s1 h1
  exact c m s1 (Nat.le_trans hj q1) q2 q3 n s' h2
theorem Atj{o:Option (List Nd×PS)}{f:List Nd×PS→Option (Nd×PS)}(h:EL hi j o)(hj:i0≤j)(c:∀ n s',i0≤s'.i→Nd.Alls (Rg hi) n→Nd.decs n = []→S1 T hi i0 (f (n,s'))):S1 T hi i0 (o.bind f):=fun n s' he=>by
  obtain⟨⟨m,s1⟩,h1,h2⟩:=Option.bind_eq_some_iff.1 he
  obtain⟨q1,q2,q3⟩:=h m s1 h1
  exact c m s1 (Nat.le_trans hj q1) q2 q3 n s' h2
theorem ArB{o:Option (Nd×PS)}{f:Nd×PS→Option (List Nd×PS)}(h:E1 hi j o)(hj:i0≤j)(c:∀ n s',i0≤s'.i→n.All (Rg hi)→n.dec = []→SL T hi lo i0 (f (n,s'))):SL T hi lo i0 (o.bind f):=fun n s' he=>by
  obtain⟨⟨m,s1⟩,h1,h2⟩:=Option.bind_eq_some_iff.1 he
  obtain⟨q1,q2,q3⟩:=h m s1 h1
  exact c m s1 (Nat.le_trans hj q1) q2 q3 n s' h2
variable(H:Aoz T hi)
include H
theorem Avo{o:Option (Nd×PS)}(h:S1 T hi j o)(hj:i0≤j):S1 T hi i0 o:=fun n s' he=>by
  obtain⟨q1,q2,q3⟩:=h n s' he
  exact⟨Nat.le_trans hj q1,q2,q3.wide (HJ H hj) (Int.le_refl _)⟩
theorem Anb{o:Option (List Nd×PS)}(h:SL T hi lo j o)(hj:i0≤j):SL T hi lo i0 o:=fun n s' he=>by
  obtain⟨q1,q2,q3⟩:=h n s' he
  exact⟨Nat.le_trans hj q1,q2,q3⟩
theorem SX{o:Option (Nd×PS)}{f:Nd×PS→Option (Nd×PS)}(h:S1 T hi j o)(hj:i0≤j)(c:∀ n s',i0≤s'.i→n.All (Rg hi)→Srt n.dec (atN T i0) (atN T s'.i)→S1 T hi i0 (f (n,s'))):S1 T hi i0 (o.bind f):=fun n s' he=>by
  obtain⟨⟨m,s1⟩,h1,h2⟩:=Option.bind_eq_some_iff.1 he
  obtain⟨q1,q2,q3⟩:=h m s1 h1
  exact c m s1 (Nat.le_trans hj q1) q2 (q3.wide (HJ H hj) (Int.le_refl _)) n s' h2
theorem Ak5{o:Option (Nd×PS)}{f:Nd×PS→Option (List Nd×PS)}(h:S1 T hi j o)(hj:i0≤j)(c:∀ n s',i0≤s'.i→j≤s'.i→n.All (Rg hi)→Srt n.dec (atN T j) (atN T s'.i)→SL T hi lo i0 (f (n,s'))):SL T hi lo i0 (o.bind f):=fun n s' he=>by
  obtain⟨⟨m,s1⟩,h1,h2⟩:=Option.bind_eq_some_iff.1 he
  obtain⟨q1,q2,q3⟩:=h m s1 h1
  exact c m s1 (Nat.le_trans hj q1) q1 q2 q3 n s' h2
theorem AnT{o:Option (List Nd×PS)}{f:List Nd×PS→Option (Nd×PS)}(h:SL T hi lo j o)(hj:i0≤j)(c:∀ n s',i0≤s'.i→Nd.Alls (Rg hi) n→Srt (Nd.decs n) lo (atN T s'.i)→S1 T hi i0 (f (n,s'))):S1 T hi i0 (o.bind f):=fun n s' he=>by
  obtain⟨⟨m,s1⟩,h1,h2⟩:=Option.bind_eq_some_iff.1 he
  obtain⟨q1,q2,q3⟩:=h m s1 h1
  exact c m s1 (Nat.le_trans hj q1) q2 q3 n s' h2
omit H in
theorem Att{o:Option (List Nd×PS)}{f:List Nd×PS→Option (Nd×PS)}(h:NL T hi lo j o)(hj:i0≤j)(c:∀ n s',i0≤s'.i→Nd.Alls (Rg hi) n→Srt (n.map Nd.at_) lo (atN T s'.i)→S1 T hi i0 (f (n,s'))):S1 T hi i0 (o.bind f):=fun n s' he=>by
  obtain⟨⟨m,s1⟩,h1,h2⟩:=Option.bind_eq_some_iff.1 he
  obtain⟨q1,q2,q3⟩:=h m s1 h1
  exact c m s1 (Nat.le_trans hj q1) q2 q3 n s' h2
omit H in
theorem WU{n:Nd}{s:PS}(h:i0≤s.i)(h1:n.All (Rg hi))(h2:Srt n.dec (atN T i0) (atN T s.i)):S1 T hi i0 (some (n,s)):=fun _ _ he=>by cases he;exact⟨h,h1,h2⟩
omit H in
theorem Ajz{n:List Nd}{s:PS}(h:i0≤s.i)(h1:Nd.Alls (Rg hi) n)(h2:Srt (Nd.decs n) lo (atN T s.i)):SL T hi lo i0 (some (n,s)):=fun _ _ he=>by cases he;exact⟨h,h1,h2⟩
omit H in
theorem Ago{n:Nd}{s:PS}(h:i0≤s.i)(h1:n.All (Rg hi))(h2:n.dec = []):S1 T hi i0 (some (n,s)):=WU h h1 (by rw[h2];exact AjA)
omit H in
theorem Aik{a b:List Int}{x y:Int}(h:Srt a x y)(he:b=a):Srt b x y:=by rw[he];exact h
theorem Ak4{l:List Nd}{n:Nd}{i k:Nat}(h:Srt (Nd.decs l) lo (atN T i))(hlo:lo≤atN T i)(hn:Srt n.dec (atN T j) (atN T k))(hj:i≤j)(hk:j≤k):Srt (Nd.decs (l ++ [n])) lo (atN T k):=by
  rw[Ag3,YC,QY,List.append_nil]
  have h1:=HJ H hj
  have h2:=HJ H hk
  exact h.app hn h1 (by omega) (by omega)
theorem ApX{p q:Nd}{i k:Nat}(hp:Srt p.dec (atN T i0) (atN T i))(hq:Srt q.dec (atN T j) (atN T k))(h0:i0≤i)(hj:i≤j)(hk:j≤k):Srt (p.dec++q.dec) (atN T i0) (atN T k):=by
  have h0:=HJ H h0
  have h1:=HJ H hj
  have h2:=HJ H hk
  exact hp.app hq h1 (by omega) (by omega)
end
section
variable{T:List Tk}{hi:Int}{R:Lv}{num:ByteArray→(Bool×List Int)×Bool}(H:Aoz T hi)(G:QL T hi R)
include H G
theorem AtK(l:List Nd)(s:PS)(lo:Int)(g0:Nd.Alls (Rg hi) l)(g1:lo≤atN T s.i)(g2:Srt (l.map Nd.at_) lo (atN T s.i)):NL T hi lo s.i (Agd T R l s):=by
  have ha:Nd.Alls (Rg hi) (l ++ [nod 31 (ZN T s).At (OT T s) []]):=BN g0 (QE (ZV (AV H s) QU) QU)
  have hm:∀ i,s.i≤i→Srt ((l ++ [nod 31 (ZN T s).At (OT T s) []]).map Nd.at_) lo (atN T i):=by
    intro i hi
    have h1:=HJ H hi
    rw[List.map_append]
    refine g2.app (b:=[atN T s.i]) (m':=atN T s.i) (hi:=atN T i) ⟨List.pairwise_singleton _ _,fun x hx => ?_⟩ (Int.le_refl _) g1 h1
    rw[List.mem_singleton] at hx
    subst hx
    exact⟨Int.le_refl _,h1⟩
  unfold Agd
  have hi1:s.i≤(JH T 5 (⟨#[44]⟩:ByteArray) (AZ T s)).i:=VH (Af3 (Nat.le_refl _))
  split
  · intro l' s' he
    cases he
    exact⟨hi1,ha,hm _ hi1⟩
  · intro l' s' he
    have h2:=HJ H hi1
    obtain⟨q1,q2,q3⟩:=G.names _ _ lo ha (by omega) (hm _ hi1) l' s' he
    exact⟨Nat.le_trans hi1 q1,q2,q3⟩
theorem Asg(s:PS):S1 T hi s.i (AcF num T R s):=by
  have z:Srt (([]:List Nd).map Nd.at_) (atN T s.i) (atN T s.i):=AjA
  have r:∀ {i:Nat},s.i≤i→s.i≤(JH T 2 (⟨#[114,97,105,115,101]⟩:ByteArray) (JH T 2 (⟨#[114,101,116,117,114,110]⟩:ByteArray) s)).i:=fun _=>VH (VH (Nat.le_refl _))
  unfold AcF
  have dn:∀ (k a:Int) (t:ByteArray) (ks:List Nd),(k=13∨k=14)→(nod k a t ks).dec=ks.map Nd.at_:=by
    intro k a t ks h
    unfold nod Nd.dec
    rcases h with rfl | rfl<;>rfl
  have decl:∀ (k:Int) (t:ByteArray) (s1:PS),(k=13∨k=14)→s.i≤s1.i→S1 T hi s.i ((R.names [] (JH T 2 t s1)).bind fun p=>some (nod k (ZN T s).At (⟨#[]⟩:ByteArray) p.1,p.2)):=by
    intro k t s1 hk h1
    have h2:s.i≤(JH T 2 t s1).i:=VH h1
    refine Att (G.names [] _ (atN T s.i) QU (HJ H h2) AjA) h2 fun l s2 k1 k2 k3=>WU k1 (ZV (AV H s) k2) ?_
    rw[dn k _ _ _ hk];exact k3
  refine PR (Ago (Aby (Nat.le_refl _)) (ZV (AV H s) QU) ?_) ?_
  · unfold KI
    split
    · split
      · exact AH rfl QY
      · split
        · exact AH rfl QY
        · split<;>exact AH rfl QY
    · exact AH rfl QY
  have h1:s.i≤(JH T 2 (⟨#[114,101,116,117,114,110]⟩:ByteArray) s).i:=VH (Nat.le_refl _)
  have h2:s.i≤(JH T 2 (⟨#[114,97,105,115,101]⟩:ByteArray) (JH T 2 (⟨#[114,101,116,117,114,110]⟩:ByteArray) s)).i:=VH h1
  refine PR (PR (NW (G.exprs _) h1 fun n s1 k1 k2 k3=>Ago k1 (ZV (AV H s) (QE k2 QU)) (AH rfl (MM k3 QY))) (Ago h1 (ZV (AV H s) (QE (ZV (AV H s) QU) QU)) (AH rfl (MM (AH rfl QY) QY)))) ?_
  refine PR (PR (NW (G.expr _) h2 fun n s1 k1 k2 k3=>Ago k1 (ZV (AV H s) (QE k2 QU)) (AH rfl (MM k3 QY))) (Ago h2 (ZV (AV H s) (QE (ZV (AV H s) QU) QU)) (AH rfl (MM (AH rfl QY) QY)))) ?_
  refine PR (decl 13 _ _ (.inl rfl) h2) ?_
  have h3:s.i≤(JH T 2 (⟨#[103,108,111,98,97,108]⟩:ByteArray) (JH T 2 (⟨#[114,97,105,115,101]⟩:ByteArray) (JH T 2 (⟨#[114,101,116,117,114,110]⟩:ByteArray) s))).i:=VH h2
  refine PR (decl 14 _ _ (.inr rfl) h3) ?_
  have h4:s.i≤(JH T 2 (⟨#[100,101,108]⟩:ByteArray) (JH T 2 (⟨#[110,111,110,108,111,99,97,108]⟩:ByteArray) (JH T 2 (⟨#[103,108,111,98,97,108]⟩:ByteArray) (JH T 2 (⟨#[114,97,105,115,101]⟩:ByteArray) (JH T 2 (⟨#[114,101,116,117,114,110]⟩:ByteArray) s))))).i:=VH (VH h3)
  refine PR (NW (G.postfix_ _) h4 fun n s1 k1 k2 k3=>Ago ?_ (ZV (AV H s) (QE k2 QU)) (AH rfl (MM k3 QY))) ?_
  · exact Aud (Ajq k1) k1
  · refine NW (G.exprs _) h4 fun n s1 k1 k2 k3=>NW (G.assigned n s1 k2 k3) k1 fun m s2 m1 m2 m3=>Ago m1 (Arb m2 (AV H s)) ?_
    rw[Art];exact m3
theorem Asa(l:List Nd)(s:PS)(lo:Int)(g0:Nd.Alls (Rg hi) l)(g1:lo≤atN T s.i)(g2:Srt (Nd.decs l) lo (atN T s.i)):SL T hi lo s.i (SG T R l s):=by
  unfold SG
  refine Aij (Ak5 H (G.stmt s) (Nat.le_refl _) fun n s1 k0 k1 k2 k3=>Anb H (G.blockL _ _ lo (BN g0 (QE k2 QU)) ?_ (Ak4 H g2 g1 k3 (Nat.le_refl _) k1)) k0) (Ajz (Nat.le_refl _) g0 g2)
  exact Int.le_trans g1 (HJ H k0)
theorem Ase(l:List Nd)(s:PS)(lo:Int)(g0:Nd.Alls (Rg hi) l)(g1:lo≤atN T s.i)(g2:Srt (Nd.decs l) lo (atN T s.i)):SL T hi lo s.i (Acz T R l s):=by
  unfold Acz
  refine Aij (Ak5 H (G.stmt s) (Nat.le_refl _) fun n s1 k0 k1 k2 k3=>Anb H (G.parseL _ _ lo (BN g0 (QE k2 QU)) ?_ (Ak4 H g2 g1 k3 (Nat.le_refl _) k1)) k0) (Ajz (Nat.le_refl _) g0 g2)
  exact Int.le_trans g1 (HJ H k0)
theorem AtE(s:PS):S1 T hi s.i (AfW T R s):=by
  unfold AfW
  have h0:s.i≤(ZZ T 7 (ZZ T 6 (GF T 5 (⟨#[58]⟩:ByteArray) s))).i:=AeQ (AeQ (NK (Nat.le_refl _)))
  refine SX H (G.stmt _) h0 fun n s1 k1 k2 k3 => ?_
  have k3':Srt (Nd.decs [n]) (atN T s.i) (atN T s1.i):=by rw[YC,QY,List.append_nil];exact k3
  refine AnT H (G.blockL [n] s1 (atN T s.i) (QE k2 QU) (HJ H k1) k3') k1 fun l s2 m1 m2 m3 => ?_
  dsimp only
  split
  · exact nofun
  · rename_i m r
    refine WU (AeQ m1) (ZV (NH (Nd.Alls_mem.1 m2 m (by simp))) m2) ?_
    rw[IE rfl]
    exact m3.wide (Int.le_refl _) (HJ H (AeQ (Nat.le_refl _)))
theorem Ahk{l:List Int}{lo:Int}{i j:Nat}(h:Srt l lo (atN T i))(hij:i≤j):Srt l lo (atN T j):=h.wide (Int.le_refl _) (HJ H hij)
theorem Asc(a:Int)(s:PS)(ha:0≤a∧a≤hi):S1 T hi s.i (Acm T R a s):=by
  unfold Acm
  refine NW (G.expr s) (Nat.le_refl _) fun n s1 k1 k2 k3=>SX H (G.block s1) k1 fun m s2 m1 m2 m3 => ?_
  have h1:s2.i≤(JH T 2 (⟨#[101,108,105,102]⟩:ByteArray) s2).i:=VH (Nat.le_refl _)
  have h2:s2.i≤(JH T 2 (⟨#[101,108,115,101]⟩:ByteArray) (JH T 2 (⟨#[101,108,105,102]⟩:ByteArray) s2)).i:=VH h1
  refine PR ?_ (PR ?_ ?_)
  · intro x s' he
    obtain⟨⟨q,s3⟩,e1,e2⟩:=Option.bind_eq_some_iff.1 he
    obtain⟨q1,q2,q3⟩:=G.choice _ _ (AV H _) q s3 e1
    cases e2
    refine⟨Nat.le_trans m1 (Nat.le_trans h1 q1),ZV ha (QE k2 (QE m2 (QE (ZV (AV H _) (QE q2 QU)) QU))),?_⟩
    rw[IE rfl,YC,YC,YC,QY,k3,List.nil_append,List.append_nil,IE rfl,YC,QY,List.append_nil]
    exact ApX H m3 q3 m1 h1 q1
  · intro x s' he
    obtain⟨⟨q,s3⟩,e1,e2⟩:=Option.bind_eq_some_iff.1 he
    obtain⟨q1,q2,q3⟩:=G.block _ q s3 e1
    cases e2
    refine⟨Nat.le_trans m1 (Nat.le_trans h2 q1),ZV ha (QE k2 (QE m2 (QE q2 QU))),?_⟩
    rw[IE rfl,YC,YC,YC,QY,k3,List.nil_append,List.append_nil]
    exact ApX H m3 q3 m1 h2 q1
  · refine WU (Nat.le_trans m1 h2) (ZV ha (QE k2 (QE m2 (QE (ZV ha QU) QU)))) ?_
    rw[IE rfl,YC,YC,YC,QY,k3,List.nil_append,List.append_nil,AH rfl QY,List.append_nil]
    exact Ahk H G m3 h2
theorem Aer(l:List Nd)(bare:Bool)(a:Int)(c:Nd)(name:ByteArray)(s:PS)(i:Nat)(lo:Int)(g0:Nd.Alls (Rg hi) l)(g1:lo≤atN T i)(g2:Srt (Nd.decs l) lo (atN T i))(ha:0≤a∧a≤hi)(hc:c.All (Rg hi))(hd:c.dec = [])(hi':i≤s.i):SL T hi lo i (KM R l bare a c name s):=by
  unfold KM
  refine Ak5 H (G.block s) hi' fun n s1 k0 k1 k2 k3 => ?_
  have hn:(nod 22 a name [c,n]).dec=n.dec:=by rw[IE rfl,YC,YC,QY,hd,List.nil_append,List.append_nil]
  refine Anb H (G.caught _ bare s1 lo (BN g0 (QE (ZV ha (QE hc (QE k2 QU))) QU)) ?_ (Ak4 H g2 g1 (by rw[hn];exact k3) hi' k1)) k0
  have:=HJ H k0;omega
theorem Asb(l:List Nd)(b:Bool)(s:PS)(lo:Int)(g0:Nd.Alls (Rg hi) l)(g1:lo≤atN T s.i)(g2:Srt (Nd.decs l) lo (atN T s.i)):SL T hi lo s.i (Acl num T R l b s):=by
  unfold Acl
  refine Aij (Ajz (Nat.le_refl _) g0 g2) (Aij (Ajz (SK (Nat.le_refl _)) g0 (Ahk H G g2 (SK (Nat.le_refl _)))) (Aij ?_ ?_))
  · refine ArB (G.expr _) (Aby (Nat.le_refl _)) fun n s1 k1 k2 k3=>Aij ?_ ?_
    · exact Aer H G l b _ _ _ _ _ lo g0 g1 g2 (AV H s) k2 k3 (Af3 (VH k1))
    · exact Aer H G l b _ _ _ _ _ lo g0 g1 g2 (AV H s) k2 k3 (VH k1)
  · exact Aer H G l true _ _ _ _ _ lo g0 g1 g2 (AV H s) (ZV (AV H s) QU) (AH rfl QY) (Aby (Nat.le_refl _))
theorem Avl(s:PS):S1 T hi s.i (Ak9 T R s):=by
  have ha:=AV H s
  unfold Ak9
  have h1:s.i≤(JH T 2 (⟨#[105,102]⟩:ByteArray) s).i:=VH (Nat.le_refl _)
  have h2:s.i≤(JH T 2 (⟨#[119,104,105,108,101]⟩:ByteArray) (JH T 2 (⟨#[105,102]⟩:ByteArray) s)).i:=VH h1
  have h3:s.i≤(JH T 2 (⟨#[102,111,114]⟩:ByteArray) (JH T 2 (⟨#[119,104,105,108,101]⟩:ByteArray) (JH T 2 (⟨#[105,102]⟩:ByteArray) s))).i:=VH h2
  have h4:s.i≤(JH T 2 (⟨#[100,101,102]⟩:ByteArray) (JH T 2 (⟨#[102,111,114]⟩:ByteArray) (JH T 2 (⟨#[119,104,105,108,101]⟩:ByteArray) (JH T 2 (⟨#[105,102]⟩:ByteArray) s)))).i:=VH h3
  have h5:s.i≤(JH T 2 (⟨#[99,108,97,115,115]⟩:ByteArray) (JH T 2 (⟨#[100,101,102]⟩:ByteArray) (JH T 2 (⟨#[102,111,114]⟩:ByteArray) (JH T 2 (⟨#[119,104,105,108,101]⟩:ByteArray) (JH T 2 (⟨#[105,102]⟩:ByteArray) s))))).i:=VH h4
  have h6:s.i≤(JH T 2 (⟨#[116,114,121]⟩:ByteArray) (JH T 2 (⟨#[99,108,97,115,115]⟩:ByteArray) (JH T 2 (⟨#[100,101,102]⟩:ByteArray) (JH T 2 (⟨#[102,111,114]⟩:ByteArray) (JH T 2 (⟨#[119,104,105,108,101]⟩:ByteArray) (JH T 2 (⟨#[105,102]⟩:ByteArray) s)))))).i:=VH h5
  refine PR (Avo H (G.choice _ _ ha) h1) ?_
  refine PR (NW (G.expr _) h2 fun n s1 k1 k2 k3=>SX H (G.block s1) k1 fun m s2 m1 m2 m3=>WU m1 (ZV ha (QE k2 (QE m2 QU))) (Aik m3 ?_)) ?_
  · rw[IE rfl,YC,YC,QY,k3,List.nil_append,List.append_nil]
  refine PR (NW (G.targets _) h3 fun n s1 k1 k2 k3=>NW (G.exprs _) (NK k1) fun o s2 o1 o2 o3=>SX H (G.block s2) o1 fun m s3 m1 m2 m3=>WU m1 (ZV ha (QE k2 (QE o2 (QE m2 QU)))) (Aik m3 ?_)) ?_
  · rw[IE rfl,YC,YC,YC,QY,k3,o3,List.nil_append,List.nil_append,List.append_nil]
  refine PR (Atj (G.params [] false _ QU QY) (NK (Af3 h4)) fun l s1 k1 k2 k3=>SX H (G.block _) (NK k1) fun m s2 m1 m2 m3=>WU m1 (ZV ha (BN k2 (QE m2 QU))) (Aik m3 ?_)) ?_
  · rw[IE rfl,Ag3,YC,QY,k3,List.nil_append,List.append_nil]
  refine PR (PR (NW (G.expr _) (VH (Af3 h5)) fun n s1 k1 k2 k3=>SX H (G.block _) (NK k1) fun m s2 m1 m2 m3=>WU m1 (ZV ha (QE k2 (QE m2 QU))) (Aik m3 ?_)) (SX H (G.block _) (VH (Af3 h5)) fun m s2 m1 m2 m3=>WU m1 (ZV ha (QE (ZV ha QU) (QE m2 QU))) (Aik m3 ?_))) ?_
  · rw[IE rfl,YC,YC,QY,k3,List.nil_append,List.append_nil]
  · rw[IE rfl,YC,YC,QY,AH rfl QY,List.nil_append,List.append_nil]
  refine PR (SX H (G.block _) h6 fun m s2 m1 m2 m3 => ?_) ?_
  · have hw:s2.i≤(if !isP T 2 (⟨#[101,120,99,101,112,116]⟩:ByteArray) s2 then DH T s2 else s2).i:=Aud (SK (Nat.le_refl _)) (Nat.le_refl _)
    have hw2:=Nat.le_trans m1 hw
    refine AnT H (G.caught [m] false _ (atN T s.i) (QE m2 QU) (HJ H hw2) ?_) hw2 fun l s3 k1 k2 k3=>WU k1 (ZV ha k2) (Aik k3 (IE rfl))
    rw[YC,QY,List.append_nil]
    exact Ahk H G m3 hw
  · refine SX H (G.simple _) h6 fun m s2 m1 m2 m3=>WU (AeQ m1) m2 (Ahk H G m3 (AeQ (Nat.le_refl _)))
end
theorem AvQ(T:List Tk)(hi:Int):QL T hi lv0:=by
  constructor<;>intros<;>exact nofun
theorem AvP{T:List Tk}{hi:Int}(H:Aoz T hi)(num:ByteArray→(Bool×List Int)×Bool):∀ f,QL T hi (lv num T f)
  | 0=>AvQ T hi
  | f+1=>by
    have G:=AvP H num f
    exact⟨Avg H G,AvS H G,AvR H G,Avc H G,Avb H G,Avj H G,AqL H G,AvT H G,Avk H G,AtJ H G,Ao2 H G,AtL H G,Ave H G,AtM H G,Ash H G,AtG H G,Avh H G,AtH H G,AqM H G,Ao1 H G,Avi H G,Avf H G,AtF H G,AtI H G,Avd H G,AtN H G,Asd H G,AtK H G,Asg H G,AtE H G,Asa H G,Asc H G,Asb H G,Avl H G,Ase H G⟩
theorem Asf{T:List Tk}{hi:Int}(H:Aoz T hi){num:ByteArray→(Bool×List Int)×Bool}{f:Nat}{o:Nd×Int×Int}(h:Aeq num T f=some o):o.1.All (Rg hi)∧o.1.dec.Pairwise (· ≤ ·):=by
  have z:0≤(0:Int)∧(0:Int)≤hi:=⟨Int.le_refl _,H.hi⟩
  have e0:(nod 0 0 (⟨#[]⟩:ByteArray) []).All (Rg hi)∧(nod 0 0 (⟨#[]⟩:ByteArray) []).dec.Pairwise (· ≤ ·):=⟨ZV z QU,by rw[AH rfl QY];exact .nil⟩
  unfold Aeq at h
  obtain⟨⟨l,s⟩,h1,h2⟩:=Option.bind_eq_some_iff.1 h
  obtain⟨_,q2,q3⟩:=(AvP H num f).parseL [] ⟨0,0,0⟩ (atN T 0) QU (Int.le_refl _) AjA l s h1
  have hh:0≤Aea l∧Aea l≤hi:=by
    unfold Aea
    cases l with
    | nil=>exact z
    | cons n r=>exact NH (Nd.Alls_mem.1 q2 n (by simp))
  dsimp only at h2
  split at h2
  · cases h2;exact e0
  · split at h2
    · cases h2;exact e0
    · cases h2
      refine⟨ZV z (QE (ZV hh q2) QU),?_⟩
      show(nod 1 0 (⟨#[]⟩:ByteArray) [nod 2 (Aea l) (⟨#[]⟩:ByteArray) l]).dec.Pairwise (· ≤ ·)
      rw[IE rfl,YC,QY,List.append_nil,IE rfl]
      exact q3.1
end Go.Proofs.YtjiagmjfnbljjaaGreatDoor
end
