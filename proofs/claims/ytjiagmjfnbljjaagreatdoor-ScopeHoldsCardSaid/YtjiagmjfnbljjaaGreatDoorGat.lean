/- Lemmas for the statement proved in the last of these texts: part 20 of 25. Conditions: none. -/
import Derived.Test.YtjiagmjfnbljjaaGreatDoorGas
import Derived.Test.YtjiagmjfnbljjaaGreatDoorGal
section
namespace Go.Proofs.YtjiagmjfnbljjaaGreatDoor
open Go Go.MapKept
set_option maxHeartbeats 4000000
set_option linter.unusedVariables false
set_option linter.unusedSimpArgs false
def Alt(w:World)(sl:Sl)(us:List Us):Prop:=sl.n=us.length∧(sl.a=none→sl.c=0∧us = [])∧sl.n≤sl.c∧∀ p,sl.a=some p→JD w p (DW us)
structure Aul(w:World)(s:So)(x:JL):Prop where
  kind:x.Kind=s.kind
  at_:x.At=s.at_
  around:x.Around=s.around
  locals:x.Locals=s.locals
  cells:x.Cells=s.cells
  frees:x.Frees=s.frees
  uses:Alt w x.Uses s.uses
structure AgX(w:World)(sl:Sl)(L:List So):Prop where
  n:sl.n=L.length
  nil:sl.a=none→sl.n=0∧sl.c=0
  at_:∀ p,sl.a=some p→∀ i s,L[i]? = some s→∃ x:JL,JD w (p.add (i * 7)) x.cells.toList∧Aul w s x
theorem AmJ.at_{e:We}{r:Fz}{w:World}{a:WA}{l:List En}{sl:Sl}{us:List Us}(h:AmJ r sl us)(m:WMr e r w a l):Alt w sl us:=by
  obtain⟨h1,h2⟩:=h
  rcases h2 with⟨h2,h3,h4⟩ | ⟨g,cur,h3,h4,h5,h6⟩
  · exact⟨h1,fun _=>⟨h3,h4⟩,by rw[h1,h4];exact Nat.zero_le _,fun p hp=>by rw[h2] at hp;cases hp⟩
  · refine⟨h1,fun hn=>(by rw[h3] at hn;cases hn),h4,fun p hp => ?_⟩
    rw[h3] at hp
    simp only[Option.some.injEq] at hp
    subst hp
    have hg:=m.fz h5
    intro k v hk
    rw[GQ,Nat.zero_add]
    refine Aax hg ?_
    rw[← h6,List.getElem?_take] at hk
    split at hk
    · simpa using hk
    · cases hk
def AkZ(x:JL):List Value:=x.cells.toList
theorem Ak0(x:JL):(AkZ x).length=7:=rfl
def AvA(r:Fz)(s:Sc)(x:JL):Prop:=∃ ul,x=⟨s.kind,s.at_,s.around,ul,(EN s).locals,(EN s).cells,(EN s).frees⟩∧AmJ r ul (EN s).uses
section
variable{e:We}{r:Fz}{T:List ByteArray}{w w':World}{a a':WA}{l:List En}
def Apm(r:Fz)(p:Wp)(xs:List JL):Prop:=xs.length=p.scs.length∧∀ (i:Nat) (s:Sc) (y:JL),p.scs[i]? = some s→xs[i]? = some y→AvA r s y
theorem Asx{p:Wp}{sl:Sl}{xs:List JL}(h:WMr e r w a (.row 38 7 sl (xs.flatMap AkZ) :: l))(ht:Apm r p xs):AgX w sl (p.scs.map EN):=by
  obtain⟨hxl,htold⟩:=ht
  have ho:Own w e.w0.heap.size 38 7 sl (xs.flatMap AkZ):=h.1.ok (e:=.row 38 7 sl (xs.flatMap AkZ)) (List.mem_append_right _ me0)
  have hun:sl.n=xs.length:=by
    have:=ho.len
    rw[Abw Ak0] at this;omega
  refine⟨by rw[hun,hxl,List.length_map],ho.cells.1,fun q hq i t ht => ?_⟩
  rw[List.getElem?_map] at ht
  cases hs:p.scs[i]? with
  | none=>rw[hs] at ht;cases ht
  | some s=>
    rw[hs] at ht
    simp only[Option.map_some,Option.some.injEq] at ht
    subst ht
    have hi:i<xs.length:=by
      have:=(List.getElem?_eq_some_iff.1 hs).1
      omega
    have hy:xs[i]? = some xs[i]:=List.getElem?_eq_getElem hi
    obtain⟨ul,q1,q2⟩:=htold i s xs[i] hs hy
    refine⟨xs[i],fun k v hk => ?_,?_⟩
    · rw[II]
      exact ho.cells.2 q hq _ _ (PN Ak0 hy k v hk)
    · rw[q1]
      exact⟨rfl,rfl,rfl,rfl,rfl,rfl,q2.at_ h⟩
theorem Asy(hT:Few T)(u:Uq e r T a w a l)(hU:Usb a.er)(hlen:a.scs.length≤2147483648)(hfew:∀ s∈a.er.scs,s.few 2147483648){fin:Sl→World→Prop}
    (c:∀ sl w' r' xs,Uq e r' T a w' a (.row 38 7 sl (xs.flatMap AkZ) :: l)→Apm r' a.er xs→fin sl w') :
    Lp (α:=Sl×Int) (fun x27=>[x27.1.v,.int .i64 x27.2]) [.slice none 0 0,.int .i64 0] (fun x27 again28 w=>
      br (decide (x27.2<(a.L.n:Int)))
        (nn a.L.a fun a29=>
        0≤x27.2∧x27.2<((a.L.n:Nat):Int)∧
        ZA (a29.add (x27.2.toNat * 1)) (fun(p30:Option Addr) w=>
          BB p30 (fun(x31:JL) w=>
            bx (.cells #[.int .i64 x31.Kind,.int .i64 x31.At,.int .i64 x31.Around,x31.Uses.v,.int .i64 x31.Locals,.int .i64 x31.Cells,.int .i64 x31.Frees] 38) (fun a32 w=>
              rn (Builtin.append_ #[30,30] 30 #[x27.1.v,.slice (some a32) 1 1]) (hSl) (fun(l33:Sl) w=>
                again28 [l33.v,.int .i64 (IntKind.i64.wrap (x27.2+1))] w) w) w) w) w)
        (fin x27.1 w)) w:=by
  have hz:WMr e r w a (.row 38 7 ⟨none,0,0⟩ [] :: l):=u.h.row_new (.refl w) (Own.nil _ _ _ _)
  have hn:=u.h.rowL.2
  refine YE (fun m (x:Sl×Int) w'=>∃ (k:Nat) (r':Fz) (xs:List JL),x.2=k∧m+k=a.scs.length∧xs.length=k∧Uq e r' T a w' a (.row 38 7 x.1 (xs.flatMap AkZ) :: l)∧∀ i s y,i<k→a.er.scs[i]? = some s→xs[i]? = some y→AvA r' s y) a.scs.length ((⟨none,0,0⟩:Sl),(0:Int)) rfl ⟨0,r,[],rfl,rfl,rfl,u.to hz,fun i s y hi=>by omega⟩ ?_
  clear hz u
  rintro m ⟨out,x⟩ w1 ⟨k,r1,xs,hx,hm,hxl,u,htold⟩ again hag
  dsimp only at hx u ⊢
  subst hx
  refine JE (fun hlt => ?_) (fun hge => ?_)
  · have hlt:k<a.scs.length:=by simp at hlt;omega
    obtain⟨s,hs⟩:∃ s,a.scs[k]? = some s:=⟨_,List.getElem?_eq_getElem hlt⟩
    have hse:=WA.er_at hs
    obtain⟨t1,t2,t3⟩:=hfew s.er (List.mem_of_getElem? hse)
    refine u.h.ldP hs (At2 hT u hU hs (by have:((s.er.params.length:Nat):Int)≤2147483648:=t3;have e:s.er.params=s.params:=rfl;rw[e] at this;omega) ⟨t1,t2⟩ fun r2 w2 ul hr2 u2 hus => ?_)
    have hun:out.n=xs.length:=by
      have ho:Own w2 e.w0.heap.size 38 7 out (xs.flatMap AkZ):=u2.h.1.ok (e:=.row 38 7 out (xs.flatMap AkZ)) (List.mem_append_right _ me0)
      have:=ho.len
      rw[Abw Ak0] at this;omega
    obtain⟨y,hy⟩:∃ y:JL,scC s ul (EN s.er).locals (EN s.er).cells (EN s.er).frees=y:=⟨_,rfl⟩
    rw[hy]
    refine u2.h.bx fun b w3 h3 => ?_
    refine h3.appAt (k:=1) AqV (src:=⟨some ⟨b,0,none⟩,1,1⟩) (news:=AkZ y) rfl ⟨nofun,fun p hp => ?_⟩ rfl (fun v hv => ?_) (by simp only;omega) (by decide) fun out' w4 hn4 h4 => ?_
    · simp only[Option.some.injEq] at hp
      subst hp
      exact h3.cells (b:=b) me0
    · simp only[AkZ,JL.cells,List.mem_cons,List.not_mem_nil,or_false] at hv
      rcases hv with rfl | rfl | rfl | rfl | rfl | rfl | rfl<;>rfl
    · have h5:WMr e r2 w4 a (.row 38 7 out' ((xs ++ [y]).flatMap AkZ) :: l):=by
        have:=h4.sub (List.sublist_cons_self _ _)
        rw[List.flatMap_append]
        simpa using this
      rw[ZS (n:=a.scs.length) (by omega) (by omega) (by omega)]
      refine hag (m - 1) (out',(k:Int)+1) w4 (by omega) ⟨k+1,r2,xs ++ [y],by simp,by omega,by simp[hxl],u2.to h5,fun i s' y' hi hs' hy' => ?_⟩
      by_cases hik:i<k
      · rw[List.getElem?_append_left (by omega)] at hy'
        obtain⟨ul',q1,q2⟩:=htold i s' y' hik hs' hy'
        exact⟨ul',q1,q2.more hr2⟩
      · have hik:i=k:=by omega
        subst hik
        rw[List.getElem?_append_right (by omega),hxl,Nat.sub_self] at hy'
        simp only[List.getElem?_cons_zero,Option.some.injEq] at hy'
        rw[hse] at hs'
        simp only[Option.some.injEq] at hs'
        subst hy' hs'
        exact⟨ul,hy.symm,hus⟩
  · have hge:k=a.scs.length:=by simp at hge;omega
    exact c out w1 r1 xs u ⟨by rw[hxl,hge,EH],fun i s y hs hy=>htold i s y (by
      have:=(List.getElem?_eq_some_iff.1 hs).1
      rw[EH] at this;omega) hs hy⟩
end
theorem AvD{w0:World}{B:Nat}{S:World→Prop}(hS:∀ w',S w'→Ext w0 w'){ks:List Nd}{sl:Sl}(hr:HS w0 B ks sl)(hi:0<ks.length){K:JA→Prop}(c:∀ x,Rep w0 B ks[0] x→K x) :
    nn sl.a fun a=>0≤(0:Int)∧(0:Int)<((sl.n:Nat):Int)∧QB S a K:=by
  have:=ArL hS hr hi c
  simpa [JP] using this
theorem AvN{α:Type}(p q x y:α)(l:List α):(p :: q :: x :: y :: l).Perm (x :: y :: p :: q :: l):=by
  classical
  refine List.perm_iff_count.2 fun z => ?_
  simp only[List.count_cons]
  omega
theorem Aka{n:Nd}(h:PX MD n=true):n.kind=1∧n.kids.length=1∧vis n=true:=by
  unfold PX at h
  simp only[Bool.and_eq_true] at h
  obtain⟨⟨_,h1⟩,h2⟩:=h
  have hk:n.kind=1:=by simpa using h1
  refine⟨hk,?_,Aq4 h2⟩
  rw[CJ,AqO hk] at h2
  simp only[Bool.and_eq_true] at h2
  have:=AkQ h2.2
  simpa using this
theorem AlN{B0:Nat}{w:World}{n:Nd}{x:JA}(hB0:B0≤w.heap.size)(hV:VOk B0 w)(hw:n.wt≤100000000)(hr:Rep w w.heap.size n x){K:YR→World→Prop}
    (c:∀ sl w',Ext w w'→AgX w' sl (AW n).1→K ⟨sl,⟨(AW n).2.1,(AW n).2.2⟩⟩ w'):KU x K w:=by
  refine AgC _ _ _ ?_
  unfold AdT
  have hz0:Mz w.heap.size (XW w []) w []:=⟨_,Mx.nil (Nat.le_refl _),.refl w,nofun⟩
  refine hz0.bx fun b1 w1 hz1=>hz1.bx fun b2 w2 hz2 => ?_
  have nilAt:∀ {w:World},AgX w ⟨none,0,0⟩ []:=⟨rfl,fun _=>⟨rfl,rfl⟩,nofun⟩
  have base:∀ {w':World} {l:List En},Mz w.heap.size (XW w []) w' l→Ext w w':=fun h=>by
    obtain⟨I,_,h2⟩:=h
    exact h2.1
  have hc1:JD w2 ⟨b1,0,none⟩ x.cells.toList:=.all (hz2.heap me1)
  refine QV hc1 ?_
  have e2:=base hz2
  refine AlH (Nat.le_trans hB0 e2.size) (hV.ext e2) e2.size (by omega) (hr.ext e2) _ fun w3 e3 => ?_
  have hz3:=hz2.ext e3
  unfold AW at c
  cases hck:PX MD n with
  | false=>
    rw[hck] at c
    refine VF rfl (YH (hz3.heap me0) (Nat.le_of_eq rfl) fun w4 s4 => ?_)
    rw[QH (by rfl)] at s4
    have hz4:=hz3.set (k:=0) rfl s4
    refine UH (x:=⟨106,0⟩) (.all (hz4.heap me0)) (Rt.mk (h:=XU) ⟨⟨none,0,0⟩,⟨106,0⟩⟩ (c _ w4 (base hz4) nilAt))
  | true=>
    rw[hck] at c
    simp only[if_true] at c
    obtain⟨hkind,hkl,hvis⟩:=Aka hck
    refine ZH rfl (hz3.bx fun bl w4 hz4=>hz4.bx fun bw w5 hz5 => ?_)
    let e:We:=⟨w,bw,bl⟩
    let a0:WA:=⟨[],[],⟨none,0,0⟩,⟨none,0,0⟩,0,0⟩
    have hz6:=(hz5.nil_row 1 1).nil_row 65 1
    have h:WMr e [] w5 a0 [.box b2 (.cells #[.int .i64 0,.int .i64 0] 32),.box b1 (.cells x.cells 27)]:=by
      exact⟨hz6.perm (AvN _ _ _ _ _),nofun,nofun⟩
    refine h.dw fun w6 h => ?_
    have hk0:0<n.kids.length:=by omega
    refine⟨fun w'=>Ext w w'∧JD w' ⟨b1,0,none⟩ x.cells.toList,⟨h.base,h.cells me1⟩,ZY (x:=x.Kids) (fun w' h=>h.2 5 _ rfl) ?_⟩
    refine AvD (S:=fun w'=>Ext w w'∧JD w' ⟨b1,0,none⟩ x.cells.toList) (fun w' h=>h.1) hr.kids hk0 fun y hy => ?_
    refine PZ (x:=x) (fun w' h=>h.2) ?_
    refine ApM (e:=e) (a:=a0) h 1 (-1) x (by decide) fun a1 w7 h7 hle7 her7 hlat7 hlen7=>⟨⟨h7.base,h7.cells me1⟩,?_⟩
    have hlen7':a1.scs.length=1:=hlen7
    have her7':a1.er=wp0.open_ 1 n.at_ (-1):=by rw[her7,hr.at_];rfl
    have hwk:(n.kids[0]).wt<n.wt:=Nd.wt_lt (List.getElem_mem hk0)
    have hb:Bnd a1 (n.kids[0]).wt:=⟨by omega,by rw[hlat7];show 0+_≤_;omega,0,Int.le_refl _,by omega,fun s hs=>by
      rw[her7'] at hs
      have hs:s∈([]:List Sc) ++ [⟨1,n.at_,-1,[],[],0⟩]:=hs
      simp only[List.nil_append,List.mem_singleton] at hs
      subst hs
      exact⟨Int.le_refl 0,Int.le_refl 0,by simp⟩⟩
    refine(AmI (AvC e) (n.wt+1) (n:=n.kids[0]) (s:=0) (lp:=false) (ex:=false) (by omega) h7 hy (AcM hvis _ (List.getElem_mem hk0)) (by omega) hb).1 fun r8 a8 w8 h8 hr8 hle8 her8 => ?_
    have hkid0:n.kid 0=n.kids[0]:=OK hk0
    -- the walk is over
    obtain⟨p,hp⟩:∃ p,ndS (n.wt+1) false (n.kid 0) 0 false false (wp0.open_ 1 n.at_ (-1))=p:=⟨_,rfl⟩
    have her8':a8.er=p:=by rw[her8,her7',← hp,hkid0]
    have hwp:NF n=p.lat.foldl (fun p q=>Adq q p) p:=by unfold NF;rw[hp]
    have hall:∀ X:Nd→Prop,n.All X→(n.kid 0).All X:=fun X h=>by rw[hkid0];exact h.kids _ (List.getElem_mem hk0)
    have inv:∀ {X:Nd→Prop} {I:Wp→Prop},Inv false X I→n.All X→I (wp0.open_ 1 n.at_ (-1))→I p:=fun H hX h0=>by
      rw[← hp]
      exact(Ajw H nofun (n.wt+1) false (n.kid 0) 0 false false _ (hall _ hX) ⟨h0,Nat.one_pos⟩).1
    have haq:Aq 0 (wp0.open_ 1 n.at_ (-1)):=⟨fun i s hs=>by
      have hs:([] ++ [(⟨1,n.at_,-1,[],[],0⟩:Sc)])[i]? = some s:=hs
      cases i with
      | zero=>simp at hs;subst hs;exact⟨Int.le_refl _,by show(-1:Int)<0;decide⟩
      | succ i=>simp at hs,Nat.one_pos⟩
    have har:CX p:=by rw[← hp];exact(AoU _ _ _ _ _ _ _ haq).ar
    have Aah:(wp0.open_ 1 n.at_ (-1)).sub p (n.kid 0).wt:=by rw[← hp];exact MW _ _ _ _ _ _ _
    rw[hkid0] at Aah
    have hpl:p.scs.length≤1+n.wt:=by have:=Aah.scs;have e1:(wp0.open_ 1 n.at_ (-1)).scs.length=1:=rfl;omega
    have hpt:p.lat.length≤n.wt:=by have:=Aah.lat;have e1:(wp0.open_ 1 n.at_ (-1)).lat.length=0:=rfl;omega
    have hfew:∀ s∈p.scs,s.few 100000000:=by
      intro s hs
      have:=Aah.few 0 (Int.le_refl _) (fun s hs=>by
        have hs:s∈([]:List Sc) ++ [⟨1,n.at_,-1,[],[],0⟩]:=hs
        simp only[List.nil_append,List.mem_singleton] at hs
        subst hs
        exact⟨Int.le_refl 0,Int.le_refl 0,by simp⟩) s hs
      exact this.mono (by omega)
    have hue:UE p:=inv AsE (Nd.all_true n) (by
      intro c hc
      have hc:c∈([]:List Sc) ++ [⟨1,n.at_,-1,[],[],0⟩]:=hc
      simp only[List.nil_append,List.mem_singleton] at hc
      subst hc;simp)
    have hlo:AlM p:=inv ApC (Nd.all_true n) (by
      intro i t hb
      exfalso
      unfold Wp.nmOf at hb
      have e1:(wp0.open_ 1 n.at_ (-1)).scs = [⟨1,n.at_,-1,[],[],0⟩]:=rfl
      rw[e1] at hb
      cases i with
      | zero=>simp[Sc.nm,ZJ,nm0] at hb
      | succ i=>simp[nm0] at hb)
    have hnm:∀ c∈p.scs,c.Nms (· ∈ n.txts):=inv (ApH (· ∈ n.txts)) (Nd.txts_all n.txts n fun _ h=>h) (by
      intro c hc
      have hc:c∈([]:List Sc) ++ [⟨1,n.at_,-1,[],[],0⟩]:=hc
      simp only[List.nil_append,List.mem_singleton] at hc
      subst hc;exact⟨by simp,by simp⟩)
    have hT:Few n.txts:=⟨fun t ht=>by have:=Nd.txts_size n t ht;omega,by have:=Nd.txts_len n;omega⟩
    have hl8:a8.scs.length=p.scs.length:=by rw[← her8',EH]
    have hlt8:a8.lat.length=p.lat.length:=by rw[← her8',AoI]
    refine Aqz (x:=a8.Lt) (h8.top 2 _ rfl) ?_
    refine AsY h8 (by rw[her8'];exact har) (by omega) fun a9 w9 h9 hs9 her9 => ?_
    rw[her8',← hwp] at her9
    have hcode:a9.code=(NF n).code:=by rw[← her9];rfl
    have hat:a9.at_=(NF n).at_:=by rw[← her9];rfl
    refine JO (x:=a9.code) (by simpa [JP] using h9.flt 0 _ rfl) ?_
    rw[hcode]
    refine JE (fun hb => ?_) (fun hb => ?_)
    · rw[if_pos hb] at c
      refine h9.dw fun w10 h10=>⟨fun w'=>JD w' ⟨bl,0,none⟩ [.int .i64 a9.code,.int .i64 a9.at_],h10.flt,CQ (x:=⟨a9.code,a9.at_⟩) (fun w' h=>h) ?_⟩
      refine YH (h10.1.heap (List.mem_append_right _ me0)) (Nat.le_of_eq rfl) fun w11 s11 => ?_
      rw[QH (by rfl)] at s11
      have h11:=h10.set (k:=0) rfl s11
      rw[hcode,hat] at h11 s11
      refine UH (x:=⟨(NF n).code,(NF n).at_⟩) (by rw[← hcode,← hat];exact .all (s11.get (ZC (h10.1.heap (List.mem_append_right _ me0))) |> fun h=>by rw[hcode,hat];exact h)) ?_
      exact Rt.mk (h:=XU) ⟨⟨none,0,0⟩,⟨(NF n).code,(NF n).at_⟩⟩ (c _ w11 h11.base nilAt)
    · rw[if_neg (ne_true_of_eq_false hb)] at c
      have hc0:(p.lat.foldl (fun p q=>Adq q p) p).code=0:=by rw[← hwp];simpa using hb
      obtain⟨hw1,hw2⟩:=AhS _ _ hc0
      rw[← hwp] at hw1
      have hl9:a9.scs.length=p.scs.length:=by rw[hs9,hl8]
      have u9:Uq e r8 n.txts a9 w9 a9 [.box b2 (.cells #[.int .i64 0,.int .i64 0] 32),.box b1 (.cells x.cells 27)]:=⟨h9,by rw[her9,hw1];exact har,by rw[her9,hw1];exact hnm,.refl _,rfl⟩
      refine At6 hT (by omega) u9 (by rw[her9,hw1];exact Akk hue hlo hw2) fun a10 w10 u10 her10 => ?_
      rw[her9] at her10
      have hl10:a10.scs.length=p.scs.length:=by rw[u10.len,hl9]
      refine u10.h.ldL ?_
      have hU10:Usb a10.er:=by rw[her10,hw1];exact Amv (Amu hue)
      have hf10:∀ s∈a10.er.scs,s.few 2147483648:=by
        rw[her10,hw1]
        intro s hs
        exact((Aoi p).few 100000000 (by decide) hfew s hs).mono (by decide)
      refine Asy (fin:=fun sl w=>ZO ⟨b2,0,none⟩ ⟨0,0⟩ (fun w=>XS ⟨b2,0,none⟩ (fun r34=>Rt XU K (.tuple #[sl.v,r34.v]) w) w) w) hT (u10.rebase (a1:=a10)) hU10 (by omega) hf10 fun sl w11 r11 xs u11 ht => ?_
      refine YH (u11.h.bxGet (b:=b2) me1) (Nat.le_of_eq rfl) fun w12 s12 => ?_
      rw[QH (by rfl)] at s12
      have h12:=u11.h.set (k:=1) rfl s12
      refine UH (x:=⟨0,0⟩) (h12.cells (b:=b2) me1) (Rt.mk (h:=XU) ⟨sl,⟨0,0⟩⟩ (c sl w12 h12.base ?_))
      have:=Asx h12 ht
      rw[her10] at this
      exact this
end Go.Proofs.YtjiagmjfnbljjaaGreatDoor
end
