/- Lemmas for the statement proved in the last of these texts: part 10 of 25. Conditions: none. -/
import Derived.Test.YtjiagmjfnbljjaaGreatDoorGaf
import Derived.Test.YtjiagmjfnbljjaaGreatDoorGag
set_option linter.unusedSectionVars false
section
namespace Go.Proofs.YtjiagmjfnbljjaaGreatDoor
open Go Go.MapKept
set_option maxHeartbeats 4000000
set_option linter.unusedVariables false
set_option linter.unusedSimpArgs false
theorem OK{n:Nd}{i:Nat}(h:i<n.kids.length):n.kid i=n.kids[i]:=by
  unfold Nd.kid
  simp[List.getD,h]
theorem Avy{l:List Nd}(h:0<l.length):l[0].wt+Nd.wts (l.drop 1)=Nd.wts l:=by
  rcases l with _ | ⟨a,l⟩
  · simp at h
  · simp[Nd.wts]
theorem Apk{l:List Nd}(h:1<l.length):l[0].wt+(l[1].wt+Nd.wts (l.drop 2))=Nd.wts l:=by
  rcases l with _ | ⟨a,_ | ⟨b,l⟩⟩
  · simp at h
  · simp at h
  · simp[Nd.wts]
theorem AsQ{l:List Nd}(h:2<l.length):l[0].wt+(l[1].wt+(l[2].wt+Nd.wts (l.drop 3)))=Nd.wts l:=by
  rcases l with _ | ⟨a,_ | ⟨b,_ | ⟨d,l⟩⟩⟩
  · simp at h
  · simp at h
  · simp at h
  · simp[Nd.wts]
def AbE(R:Bool→Nd→Nat→Bool→Bool→Wp→Wp)(tgt:Bool)(n:Nd)(s:Nat)(lp ex:Bool)(w:Wp):Wp:=
    let all (l:List Nd) (s:Nat) (lp ex:Bool) (w:Wp):Wp:=l.foldl (fun w k=>R false k s lp ex w) w
    if n.kind==31 then w.occ s n.text n.at_ tgt else
    if tgt && n.kind==23 then n.kids.foldl (fun w k=>R true k s lp ex w) (w.many n) else
    if n.kind==4 || n.kind==5 || n.kind==6 || n.kind==7 then all (n.kids.drop 1) s lp ex (R true (n.kid 0) s lp ex w) else
    if n.kind==9 || n.kind==10 then w.fault 111 n.at_ (!lp) else
    if n.kind==11 then all n.kids s lp ex (w.fault 112 n.at_ (w.kindOf s != 2)) else
    if n.kind==12 then all n.kids s lp ex (w.fault 113 n.at_ ((n.kid 0).kind==0 && !ex)) else
    if n.kind==13 || n.kind==14 then n.kids.foldl (fun w k=>PK n.kind s k w) w else
    if n.kind==17 then R false (n.kid 2) s true ex (R false (n.kid 1) s lp ex (R true (n.kid 0) s lp ex w)) else
    if n.kind==16 then R false (n.kid 1) s true ex (R false (n.kid 0) s lp ex w) else
    if n.kind==21 then all n.kids s lp ex (w.mod s fun c=>{ c with tries:=c.tries+1 }) else
    if n.kind==22 then R false (n.kid 1) s lp true (R false (n.kid 0) s lp ex (if n.text.toList == [] then w else w.occ s n.text n.at_ true)) else
    if n.kind==18 then
      let last:=n.kids.length - 1
      let w1:=AD [] (n.kids.take last) ((w.occ s n.text n.at_ true).fault 109 n.at_ (decide ((last:Int) > 1000)))
      let inn:=w1.scs.length
      R false (n.kid last) inn false false ((n.kids.take last).foldl (fun w k=>all k.kids s lp ex (NN inn k w)) (w1.open_ 2 n.at_ s))
    else
    if n.kind==20 then
      let w1:=w.occ s n.text n.at_ true
      R false (n.kid 1) w1.scs.length false false (R false (n.kid 0) s lp ex (w1.open_ 3 n.at_ s))
    else
    if n.kind==41 || n.kind==42 || n.kind==43 then
      let inn:=w.scs.length
      all (n.kids.drop 3) inn false false (R false (n.kid 2) s lp ex (R true (n.kid 1) inn false false (R false (n.kid 0) inn false false (w.open_ 4 n.at_ s))))
    else
    if n.kind==51 then all n.kids s lp ex (AD [] (n.kids.filter fun k=>k.kind==52) (w.many n)) else
    if n.kind==35 || n.kind==36 || n.kind==37 || n.kind==38 then all n.kids s lp ex (w.many n) else
    all n.kids s lp ex w
theorem GP(f:Nat)(tgt:Bool)(n:Nd)(s:Nat)(lp ex:Bool)(w:Wp):ndS (f+1) tgt n s lp ex w=AbE (ndS f) tgt n s lp ex w:=rfl
section
variable{f:Nat}{tgt lp ex:Bool}{n:Nd}{s:Nat}{p:Wp}
theorem AuR(h:n.kind=17):ndS (f+1) tgt n s lp ex p=ndS f false (n.kid 2) s true ex (ndS f false (n.kid 1) s lp ex (ndS f true (n.kid 0) s lp ex p)):=by
  rw[GP];unfold AbE;simp[h]
theorem AuQ(h:n.kind=16):ndS (f+1) tgt n s lp ex p=ndS f false (n.kid 1) s true ex (ndS f false (n.kid 0) s lp ex p):=by
  rw[GP];unfold AbE;simp[h]
theorem AuU(h:n.kind=21):ndS (f+1) tgt n s lp ex p=EY f false s lp ex n.kids (p.mod s fun c=>{ c with tries:=c.tries+1 }):=by
  rw[GP];unfold AbE;simp[h];rfl
theorem AuV(h:n.kind=22):ndS (f+1) tgt n s lp ex p=ndS f false (n.kid 1) s lp true (ndS f false (n.kid 0) s lp ex (if n.text.toList == [] then p else p.occ s n.text n.at_ true)):=by
  rw[GP];unfold AbE;simp[h]
end
theorem WMr.scSet{e:We}{r:Fz}{w w':World}{a:WA}{l:List En}{i:Nat}{s s':ScA}(h:WMr e r w a l)(hs:a.scs[i]? = some s)(hb:s'.bs=s.bs)(hm:s'.mp=s.mp)(he:s'.me=s.me)(hc:s'.mc=s.mc)(hp:s'.ps=s.ps)(hpp:s'.params=s.params)(hn:s'.names=s.names)
    (hset:HZ w s.bs (.cells s'.cells 95) w'):WMr e r w' (a.setS i s') l:=by
  have hok:=h.2.sc s (List.mem_of_getElem? hs)
  refine h.put (b:=s.bs) (o:=.cells s.cells 95) (o':=.cells s'.cells 95) (rest:=[.box s.mp (.map s.me s.mc),.row 9 1 s.ps (s.params.map .string)] ++ ((s.names.flatMap fun p=>p.2.en)++a.rest i e.bw e.bl l)) ((WA.en_at hs e.bw e.bl l).trans (.of_eq ?_)) hset ((WA.en_set (s':=s') hs hb e.bw e.bl l).trans (.of_eq ?_)) (h.2.set hs ⟨by rw[he,hc,hn];exact hok.m,by rw[hn];exact hok.nm⟩ (WA.le_set hs hb fun t m hm=>⟨m,by rw[hn];exact hm,rfl⟩))
  · simp[ScA.en,ScA.own]
  · simp[ScA.en,ScA.own,hb,hm,he,hc,hp,hpp,hn]
section
variable{e:We}{r:Fz}{w:World}{a:WA}{l:List En}{f:Nat}{n:Nd}{x:JA}{s:Nat}{lp ex:Bool}{K:Unit→World→Prop}
  (hN:NdW e f) (hw:n.wt<f+1) (h:WMr e r w a l) (hx:Rep e.w0 e.w0.heap.size n x) (hv:vis n=true) (hs:s<a.scs.length) (hb:Bnd a n.wt)
  (c:Cn e r a l (ndS (f+1) false n s lp ex) K)
include hN hw h hx hv hs hb c
theorem Aqe(hkind:n.kind=16∨n.kind=17∨n.kind=21∨n.kind=22):OZ (some ⟨e.bw,0,none⟩) x ⟨(s:Int),lp,ex⟩ K w:=by
  refine Abh _ _ _ _ _ ?_
  unfold PI
  have hk:=hx.kids
  have hlen:=AjD hv
  have hvk:=AcM hv
  have hwt:=n.wt_eq
  have hs':s<a.er.scs.length:=by rw[EH];exact hs
  have ge:∀ (t:Bool) (m:Nd) (s':Nat) (lp ex:Bool) (p:Wp),p.scs.length≤(ndS f t m s' lp ex p).scs.length:=fun t m s' lp ex p=>(MW f t m s' lp ex p).ge
  have g:=Gw.start h hb
  refine g.bx fun r1 w g=>g.bx fun a2 w g => ?_
  refine XF (x:=⟨(s:Int),lp,ex⟩) (g.h.cells me0) ?_
  refine g.bx fun y4 w g => ?_
  have hy:w.heap[y4]? = some (.cells #[.int .i64 0,.bool false,.bool false] 63 (0,0)):=g.h.1.heap (List.mem_append_right _ me0)
  refine HO hy (Nat.le_of_eq rfl) fun w hset => ?_
  rw[QH (by rfl)] at hset
  replace g:=g.set (i:=0) rfl hset
  have sub:∀ z:En,List.Sublist l (z :: .box a2 (.cells (JB.cells ⟨(s:Int),lp,ex⟩) 63) :: .box r1 (.cells x.cells 27) :: l):=fun z=>((List.sublist_cons_self _ _).trans (List.sublist_cons_self _ _)).trans (List.sublist_cons_self _ _)
  refine JO (x:=x.Kind) (by simpa [JP] using g.h.cells me2 0 _ rfl) ?_
  rw[hx.kind]
  refine JE (fun hb1 => ?_) (fun hb1 => ?_)
  · have h17:n.kind=17:=by simpa using hb1
    rw[h17] at hlen
    have hl:2<n.kids.length:=hlen
    have hsum:=AsQ hl
    refine Aqy (g.mono (k':=n.kids[2].wt+n.kids[1].wt+n.kids[0].wt) (by omega)) me2 me1 hk (by omega) fun w y0 g hy0 => ?_
    refine g.target hN (by omega) hy0 (hvk _ (List.getElem_mem _)) hs' fun r' a' w g => ?_
    refine ArO g me2 me1 hk (by omega) fun w y1 g hy1 => ?_
    refine g.node hN (by omega) hy1 (hvk _ (List.getElem_mem _)) (Nat.lt_of_lt_of_le hs' (ge _ _ _ _ _ _)) fun r' a' w g => ?_
    have hy:w.heap[y4]? = some (.cells (JB.cells ⟨(s:Int),lp,ex⟩) 63 (0,0)):=g.h.1.heap (List.mem_append_right _ me0)
    refine KJ hy (Nat.le_of_ble_eq_true rfl) fun w hset => ?_
    replace g:=g.set (i:=0) (o':=.cells (JB.cells ⟨(s:Int),true,ex⟩) 63) rfl hset
    refine AvE (b2:=y4) (g.mono (k':=0+n.kids[2].wt) (by omega)) me2 me0 hk hl fun w y2 g hy2 => ?_
    refine g.node hN (by omega) hy2 (hvk _ (List.getElem_mem _)) (Nat.lt_of_lt_of_le hs' (Nat.le_trans (ge _ _ _ _ _ _) (ge _ _ _ _ _ _))) fun r' a' w g => ?_
    refine Rt.mk (h:=QK) () (g.done c (sub _) ?_)
    rw[AuR h17,OK hl,OK (by omega),OK (by omega)]
  refine JE (fun hb2 => ?_) (fun hb2 => ?_)
  · have h16:n.kind=16:=by simpa using hb2
    rw[h16] at hlen
    have hl:1<n.kids.length:=hlen
    have hsum:=Apk hl
    refine Aqy (g.mono (k':=n.kids[1].wt+n.kids[0].wt) (by omega)) me2 me1 hk (by omega) fun w y0 g hy0 => ?_
    refine g.node hN (by omega) hy0 (hvk _ (List.getElem_mem _)) hs' fun r' a' w g => ?_
    have hy:w.heap[y4]? = some (.cells (JB.cells ⟨(s:Int),lp,ex⟩) 63 (0,0)):=g.h.1.heap (List.mem_append_right _ me0)
    refine KJ hy (Nat.le_of_ble_eq_true rfl) fun w hset => ?_
    replace g:=g.set (i:=0) (o':=.cells (JB.cells ⟨(s:Int),true,ex⟩) 63) rfl hset
    refine ArO (b2:=y4) (g.mono (k':=0+n.kids[1].wt) (by omega)) me2 me0 hk hl fun w y2 g hy2 => ?_
    refine g.node hN (by omega) hy2 (hvk _ (List.getElem_mem _)) (Nat.lt_of_lt_of_le hs' (ge _ _ _ _ _ _)) fun r' a' w g => ?_
    refine Rt.mk (h:=QK) () (g.done c (sub _) ?_)
    rw[AuQ h16,OK hl,OK (by omega)]
  refine JE (fun hb3 => ?_) (fun hb3 => ?_)
  · have h21:n.kind=21:=by simpa using hb3
    refine g.dw fun w g => ?_
    obtain⟨sc,hsc⟩:∃ sc,a.scs[s]? = some sc:=⟨_,List.getElem?_eq_getElem hs⟩
    obtain⟨pL,hpL,hsn,_⟩:=g.h.scope hsc
    refine⟨fun w'=>JD w' ⟨e.bw,0,none⟩ [a.L.v,UC e.bl,a.Lt.v]∧JD w' ⟨a2,0,none⟩ (JB.cells ⟨(s:Int),lp,ex⟩).toList∧OQ w' a.L (a.scs.map ScA.ptr)∧JD w' ⟨sc.bs,0,none⟩ sc.cells.toList,⟨g.h.top,g.h.cells me1,g.h.rowL.1,g.h.sc hsc⟩,JM rfl ?_⟩
    refine VA (x:=a.L) (fun w' h=>by simpa [JP] using h.1 0 _ rfl) (JV (x:=(s:Int)) (fun w' h=>by simpa [JP] using h.2.1 0 _ rfl) ?_)
    refine JM hpL ⟨by omega,by omega,?_⟩
    refine VN (x:=some ⟨sc.bs,0,none⟩) (fun w' h=>by
      have:=h.2.2.1.2 pL hpL s sc.ptr (by rw[List.getElem?_map,hsc];rfl)
      simpa [ScA.ptr] using this) (JM rfl ?_)
    refine JV (x:=sc.tries) (fun w' h=>h.2.2.2 5 _ rfl) (JM rfl ?_)
    show YX ⟨sc.bs,5,none⟩ _ _ w
    have hbs:w.heap[sc.bs]? = some (.cells sc.cells 95 (0,0)):=g.h.1.heap (List.mem_append_left _ (List.mem_append_right _ (List.mem_flatMap.2 ⟨sc,List.mem_of_getElem? hsc,by simp[ScA.en,ScA.own]⟩)))
    refine MB hbs (Nat.le_of_ble_eq_true rfl) fun w hset => ?_
    obtain⟨cc,hc0,hcc,hfew⟩:=hb.few
    have hfw:=hfew sc.er (List.mem_of_getElem? (WA.er_at hsc))
    have hwr:IntKind.i64.wrap (sc.tries+1)=sc.tries+1:=JY (by have:0≤sc.tries:=hfw.1;omega) (by have:sc.tries≤cc:=hfw.2.1;omega)
    rw[hwr] at hset
    let sc':ScA:={ sc with tries:=sc.tries+1 }
    have h1:=g.h.scSet (s':=sc') hsc rfl rfl rfl rfl rfl rfl rfl hset
    have Aah:a.er.sub (a.er.mod s fun c=>{ c with tries:=c.tries+1 }) 1:=Wp.sub_modN _ _ _ 1 fun c m h0 h=>⟨by show 0≤c.tries+1;have:=h.1;omega,by show c.tries+1≤_;have:=h.2.1;omega,by show(c.params.length:Int)≤_;have:=h.2.2;omega⟩
    have g1:=(g.mono (k':=Nd.wts n.kids+1) (by omega)).step (F:=fun p=>p.mod s fun c=>{ c with tries:=c.tries+1 }) h1 (fun _ h=>h) (WA.le_set hsc rfl fun t m hm=>⟨m,hm,rfl⟩) (WA.er_set hsc rfl) Aah
    refine UG (x:=x.Kids) (g1.h.cells me2 5 _ rfl) (XF (x:=⟨(s:Int),lp,ex⟩) (g1.h.cells me1) ?_)
    refine(g1.mono (k':=0+Nd.wts n.kids) (by omega)).all hN (fun k hk=>by have:=Nd.wts_mem hk;omega) hk hvk (Nat.lt_of_lt_of_le hs' Aah.ge) fun r' a' w g => ?_
    refine Rt.mk (h:=QK) () (g.done c (sub _) ?_)
    rw[AuU h21]
  refine JE (fun hb4 => ?_) (fun hb4 => ?_)
  · have h22:n.kind=22:=by simpa using hb4
    rw[h22] at hlen
    have hl:1<n.kids.length:=hlen
    have hsum:=Apk hl
    have k0:∀ {a':WA} {w:World} {p:Wp},Gw e r a (.box y4 (.cells (JB.cells ⟨(s:Int),lp,ex⟩) 63) :: .box a2 (.cells (JB.cells ⟨(s:Int),lp,ex⟩) 63) :: .box r1 (.cells x.cells 27) :: l) n.wt p r a' w→p=(if n.text.toList == [] then a.er else a.er.occ s n.text n.at_ true)→s<p.scs.length→MS (Rt QK K) (some ⟨e.bw,0,none⟩) ⟨r1,0,none⟩ ⟨a2,0,none⟩ ⟨y4,0,none⟩ w:=by
      intro a' w p g hp hs'
      unfold MS
      refine Aqy (g.mono (k':=n.kids[1].wt+n.kids[0].wt) (by omega)) me2 me1 hk (by omega) fun w y0 g hy0 => ?_
      refine g.node hN (by omega) hy0 (hvk _ (List.getElem_mem _)) hs' fun r' a' w g => ?_
      have hy:w.heap[y4]? = some (.cells (JB.cells ⟨(s:Int),lp,ex⟩) 63 (0,0)):=g.h.1.heap (List.mem_append_right _ me0)
      refine KJ hy (Nat.le_of_ble_eq_true rfl) fun w hset => ?_
      replace g:=g.set (i:=0) (o':=.cells (JB.cells ⟨(s:Int),lp,true⟩) 63) rfl hset
      refine ArO (b2:=y4) (g.mono (k':=0+n.kids[1].wt) (by omega)) me2 me0 hk hl fun w y2 g hy2 => ?_
      refine g.node hN (by omega) hy2 (hvk _ (List.getElem_mem _)) (Nat.lt_of_lt_of_le hs' (ge _ _ _ _ _ _)) fun r' a' w g => ?_
      refine Rt.mk (h:=QK) () (g.done c (sub _) ?_)
      rw[AuV h22,OK hl,OK (by omega),hp]
    refine YS (x:=x.Text) (g.h.cells me2 2 _ rfl) ?_
    rw[hx.text,show(⟨#[]⟩:ByteArray).toList = [] from BF]
    refine JE (fun hb5 => ?_) (fun hb5 => ?_)
    · refine g.dw fun w g => ?_
      obtain⟨sc,hsc⟩:∃ sc,a.scs[s]? = some sc:=⟨_,List.getElem?_eq_getElem hs⟩
      obtain⟨pL,hpL,hsn,_⟩:=g.h.scope hsc
      refine⟨fun w'=>JD w' ⟨e.bw,0,none⟩ [a.L.v,UC e.bl,a.Lt.v]∧JD w' ⟨a2,0,none⟩ (JB.cells ⟨(s:Int),lp,ex⟩).toList∧OQ w' a.L (a.scs.map ScA.ptr)∧JD w' ⟨r1,0,none⟩ x.cells.toList,⟨g.h.top,g.h.cells me1,g.h.rowL.1,g.h.cells me2⟩,JM rfl ?_⟩
      refine VA (x:=a.L) (fun w' h=>by simpa [JP] using h.1 0 _ rfl) (JV (x:=(s:Int)) (fun w' h=>by simpa [JP] using h.2.1 0 _ rfl) ?_)
      refine JM hpL ⟨by omega,by omega,?_⟩
      refine VN (x:=some ⟨sc.bs,0,none⟩) (fun w' h=>by
        have:=h.2.2.1.2 pL hpL s sc.ptr (by rw[List.getElem?_map,hsc];rfl)
        simpa [ScA.ptr] using this) ?_
      refine YO (x:=x.Text) (fun w' h=>h.2.2.2 2 _ rfl) (JV (x:=x.At) (fun w' h=>h.2.2.2 1 _ rfl) ?_)
      rw[hx.text,hx.at_]
      refine g.occurs hsc fun a' w g=>k0 g ?_ (Nat.lt_of_lt_of_le hs' (Wp.sub_occ _ _ _ _ _).ge)
      rw[if_neg (by simpa using hb5)]
    · refine k0 g ?_ hs'
      rw[if_pos (by simpa using hb5)]
  · exfalso
    simp at hb1 hb2 hb3 hb4
    rcases hkind with h | h | h | h
    · exact hb2 h
    · exact hb1 h
    · exact hb3 h
    · exact hb4 h
end
end Go.Proofs.YtjiagmjfnbljjaaGreatDoor
end
section
namespace Go.Proofs.YtjiagmjfnbljjaaGreatDoor
open Go Go.MapKept
set_option maxHeartbeats 4000000
set_option linter.unusedVariables false
set_option linter.unusedSimpArgs false
section
variable{e:We}{r0 r:Fz}{w w':World}{a0 a:WA}{L:List En}{f k:Nat}{p:Wp}
theorem kdr{b1 b2:Nat}{x:JA}{q:JB}{ks:List Nd}{C:Sl→JB→World→Prop}
    (g:Gw e r0 a0 L k p r a w) (m1 : .box b1 (.cells x.cells 27)∈L) (m2 : .box b2 (.cells q.cells 63)∈L) (hk:HS e.w0 e.w0.heap.size ks x.Kids) (lo:Nat) (hi:lo≤ks.length)
    (c:∀ w sl,Gw e r0 a0 L k p r a w→HS e.w0 e.w0.heap.size (ks.drop lo) sl→C sl q w):dw (fun w=>∃ S:World→Prop,S w∧QM S ((⟨b1,0,none⟩:Addr).add 5) fun(l:Sl)=>rnS S (Instr.sliceAt 25 l.v (some (.int .i64 (lo:Int))) none none) hSl fun(sl:Sl)=>ZD S ⟨b2,0,none⟩ fun(z:JB)=>C sl z w) w:=by
  refine g.dw fun w g=>⟨SN e b1 x b2 q,g.sn m1 m2,ZY (x:=x.Kids) (fun w' h=>h.2.1 5 _ rfl) ?_⟩
  obtain⟨hu,_,i,z,hi',hsz,_⟩:=NP
  have hn:=hk.1
  refine VQ (h:=hSl) (x.Kids.from_ lo 6) (fun w' _ => ?_) (EK (x:=q) (fun w' h=>h.2.2) (c w _ g (hk.from_ hi)))
  have:=WS (P:=PP) (w:=w') hu hi' x.Kids (lo:Int) (by omega) (by omega)
  rw[hsz] at this
  exact this
end
section
variable{f:Nat}{tgt lp ex:Bool}{n:Nd}{s:Nat}{p:Wp}
theorem AuZ(h:n.kind=41∨n.kind=42∨n.kind=43):ndS (f+1) tgt n s lp ex p=EY f false p.scs.length false false (n.kids.drop 3) (ndS f false (n.kid 2) s lp ex (ndS f true (n.kid 1) p.scs.length false false (ndS f false (n.kid 0) p.scs.length false false (p.open_ 4 n.at_ s)))):=by
  rw[GP];unfold AbE EY
  rcases h with h | h | h<;>simp[h]
end
section
variable{e:We}{r:Fz}{w:World}{a:WA}{l:List En}{f:Nat}{n:Nd}{x:JA}{s:Nat}{lp ex:Bool}{K:Unit→World→Prop}
  (hN:NdW e f) (hw:n.wt<f+1) (h:WMr e r w a l) (hx:Rep e.w0 e.w0.heap.size n x) (hv:vis n=true) (hs:s<a.scs.length) (hb:Bnd a n.wt)
  (c:Cn e r a l (ndS (f+1) false n s lp ex) K)
include hN hw h hx hv hs hb c
theorem Arp(hkind:n.kind=41∨n.kind=42∨n.kind=43):FA (some ⟨e.bw,0,none⟩) x ⟨(s:Int),lp,ex⟩ K w:=by
  refine Ab8 _ _ _ _ _ ?_
  unfold RP
  have hk:=hx.kids
  have hlen:3≤n.kids.length:=by have:=AjD hv;rcases hkind with h | h | h<;>rw[h] at this<;>exact this
  have hvk:=AcM hv
  have hwt:=n.wt_eq
  have hs':s<a.er.scs.length:=by rw[EH];exact hs
  have ge:∀ (t:Bool) (m:Nd) (s':Nat) (lp ex:Bool) (p:Wp),p.scs.length≤(ndS f t m s' lp ex p).scs.length:=fun t m s' lp ex p=>(MW f t m s' lp ex p).ge
  have g:=Gw.start h hb
  have hsum:=AsQ (l:=n.kids) (by omega)
  refine g.bx fun n1 w g=>g.bx fun p2 w g => ?_
  refine QV (g.h.cells me1) (JO (x:=(s:Int)) (by simpa [JP] using g.h.cells me0 0 _ rfl) ?_)
  refine(g.mono (k':=Nd.wts n.kids+1) (by omega)).opn fun a1 w g => ?_
  rw[hx.at_] at g
  refine g.bx fun in6 w g => ?_
  have hy:w.heap[in6]? = some (.cells #[.int .i64 0,.bool false,.bool false] 63 (0,0)):=g.h.1.heap (List.mem_append_right _ me0)
  refine HO hy (Nat.le_of_eq rfl) fun w hset => ?_
  rw[QH (by rfl)] at hset
  replace g:=g.set (i:=0) rfl hset
  have hin:a.er.scs.length<(a.er.open_ 4 n.at_ s).scs.length:=by show _<(a.er.scs ++ [_]).length;simp
  have hop:=(Wp.sub_open a.er 4 n.at_ s).ge
  refine Aqy (b2:=in6) (q:=⟨(a.er.scs.length:Int),false,false⟩) (g.mono (k':=Nd.wts (n.kids.drop 3)+n.kids[2].wt+n.kids[1].wt+n.kids[0].wt) (by omega)) me2 me0 hk (by omega) fun w y0 g hy0 => ?_
  refine g.node hN (by omega) hy0 (hvk _ (List.getElem_mem _)) hin fun r' a' w g => ?_
  refine ArO (b2:=in6) (q:=⟨(a.er.scs.length:Int),false,false⟩) g me2 me0 hk (by omega) fun w y1 g hy1 => ?_
  refine g.target hN (by omega) hy1 (hvk _ (List.getElem_mem _)) (Nat.lt_of_lt_of_le hin (ge _ _ _ _ _ _)) fun r' a' w g => ?_
  refine AvE (b2:=p2) (q:=⟨(s:Int),lp,ex⟩) g me2 me1 hk (by omega) fun w y2 g hy2 => ?_
  refine g.node hN (by omega) hy2 (hvk _ (List.getElem_mem _)) (Nat.lt_of_lt_of_le hs' (Nat.le_trans hop (Nat.le_trans (ge _ _ _ _ _ _) (ge _ _ _ _ _ _)))) fun r' a' w g => ?_
  refine kdr (b2:=in6) (q:=⟨(a.er.scs.length:Int),false,false⟩) g me2 me0 hk 3 hlen fun w sl g hsl => ?_
  have hd:=Aov n.kids 3
  refine(g.mono (k':=0+Nd.wts (n.kids.drop 3)) (by omega)).all hN (fun k hk=>by have:=Nd.wts_mem hk;omega) hsl (fun k hk=>hvk k (List.mem_of_mem_drop hk)) (Nat.lt_of_lt_of_le hin (Nat.le_trans (ge _ _ _ _ _ _) (Nat.le_trans (ge _ _ _ _ _ _) (ge _ _ _ _ _ _)))) fun r' a' w g => ?_
  refine Rt.mk (h:=QK) () (g.done c (((List.sublist_cons_self _ _).trans (List.sublist_cons_self _ _)).trans (List.sublist_cons_self _ _)) ?_)
  rw[AuZ hkind,OK (by omega),OK (by omega),OK (by omega)]
end
end Go.Proofs.YtjiagmjfnbljjaaGreatDoor
end
section
namespace Go.Proofs.YtjiagmjfnbljjaaGreatDoor
open Go Go.MapKept
set_option maxHeartbeats 4000000
set_option linter.unusedVariables false
set_option linter.unusedSimpArgs false
section
variable{e:We}{r:Fz}{w w':World}{a:WA}{l:List En}
def ScA.par1(s:ScA)(t:ByteArray)(ps:Sl):ScA:={ s with params:=s.params ++ [t],ps:=ps }
theorem AoY{bc b35 i:Nat}{sc:ScA}{t:ByteArray}{y:JA}{K:World→Prop}(h:WMr e r w a (.box bc (.cells #[.string t] 9) :: l))(hs:a.scs[i]? = some sc)(hy : .box b35 (.cells y.cells 27)∈l)(hlen:sc.params.length<2147483648)
    (c:∀ ps w',WMr e r w' (a.setS i (sc.par1 t ps)) l→K w') :
    rn (Builtin.append_ #[76,76] 76 #[sc.ps.v,.slice (some ⟨bc,0,none⟩) 1 1]) hSl (fun(l47:Sl) w=>
      (JD w ⟨sc.bs,0,none⟩ sc.cells.toList∧JD w ⟨b35,0,none⟩ y.cells.toList)∧
      nn (some (⟨sc.bs,0,none⟩:Addr)) fun a48=>Aaa (a48.add 4) l47 K w) w:=by
  let cb:En:=.box bc (.cells #[.string t] 9)
  let R:List En:=.box sc.mp (.map sc.me sc.mc) :: ((sc.names.flatMap fun p=>p.2.en)++a.rest i e.bw e.bl l)
  let sb:En:=.box sc.bs (.cells sc.cells 95)
  have hrest:(a.rest i e.bw e.bl (cb :: l)).Perm (cb :: a.rest i e.bw e.bl l):=by
    classical
    refine List.perm_iff_count.2 fun z => ?_
    simp only[WA.rest,List.count_append,List.count_cons]
    omega
  have hz:Mz e.w0.heap.size (XW e.w0 r) w (.row 9 1 sc.ps (sc.params.map .string) :: (sb :: cb :: R)):=by
    refine h.1.perm ((WA.en_at hs e.bw e.bl (cb :: l)).trans ((hrest.append_left _).trans ?_))
    classical
    refine List.perm_iff_count.2 fun z => ?_
    simp only[ScA.en,ScA.own,R,sb,List.count_append,List.count_cons,List.count_nil]
    omega
  have hown:Own w e.w0.heap.size 9 1 sc.ps (sc.params.map .string):=hz.ok (e:=.row 9 1 sc.ps (sc.params.map .string)) me0
  have hpl:=hown.len
  rw[List.length_map] at hpl
  have YV:=h.cells (b:=bc) (cs:=#[.string t]) (t:=9) me0
  refine hz.app Avr (src:=⟨some ⟨bc,0,none⟩,1,1⟩) (news:=[.string t]) ⟨nofun,fun a' ha => ?_⟩ rfl (by simp[MH]) (by simp only;omega) (by decide) fun ps w1 hps hz1 => ?_
  · simp only[Option.some.injEq] at ha
    subst ha
    exact YV
  have hsb:w1.heap[sc.bs]? = some (.cells sc.cells 95 (0,0)):=hz1.heap me1
  have hb35:w1.heap[b35]? = some (.cells y.cells 27 (0,0)):=hz1.heap (by
    refine List.mem_cons_of_mem _ (List.mem_cons_of_mem _ (List.mem_cons_of_mem _ (List.mem_cons_of_mem _ (List.mem_append_right _ ?_))))
    exact List.mem_append_right _ (List.mem_append_right _ hy))
  refine⟨⟨.all hsb,.all hb35⟩,JM rfl ?_⟩
  show Aaa ⟨sc.bs,4,none⟩ ps K w1
  refine AlF hsb (Nat.le_of_ble_eq_true rfl) fun w2 hset=>c ps w2 ⟨?_,(h.2.set hs ⟨(h.2.sc sc (List.mem_of_getElem? hs)).m,(h.2.sc sc (List.mem_of_getElem? hs)).nm⟩ (WA.le_set hs rfl fun t n hn=>⟨n,hn,rfl⟩))⟩
  have hz2:=(hz1.perm (.swap _ _ _)).set (k:=0) rfl hset
  have hp1:=WA.en_set (s':=sc.par1 t ps) hs rfl e.bw e.bl l
  refine((hz2.perm (l':=((sc.par1 t ps).en++a.rest i e.bw e.bl l) ++ [cb]) ?_).sub (List.sublist_append_left _ _)).perm hp1.symm
  classical
  refine List.perm_iff_count.2 fun z => ?_
  have hw:ZI sc.cells 4 [ps.v] = (sc.par1 t ps).cells:=rfl
  have hp:(sc.params ++ [t]).map Value.string=sc.params.map .string ++ [.string t]:=by rw[List.map_append];rfl
  have hen:(sc.par1 t ps).en = [.box sc.bs (.cells (sc.par1 t ps).cells 95),.box sc.mp (.map sc.me sc.mc),.row 9 1 ps (sc.params.map .string ++ [.string t])] ++ sc.names.flatMap fun p=>p.2.en:=by
    show [_,_,En.row _ _ _ ((sc.params ++ [t]).map Value.string)] ++ _=_
    rw[hp];rfl
  simp only[hen,hw,List.set_cons_zero,R,List.count_append,List.count_cons,List.count_nil]
  omega
end
section
variable{f:Nat}{tgt lp ex:Bool}{n:Nd}{s:Nat}{p:Wp}
def Acn(n:Nd)(s:Nat)(p:Wp):Wp:=AD [] (n.kids.take (n.kids.length - 1)) ((p.occ s n.text n.at_ true).fault 109 n.at_ (decide (((n.kids.length - 1:Nat):Int) > 1000)))
theorem AuS(h:n.kind=18):ndS (f+1) tgt n s lp ex p=ndS f false (n.kid (n.kids.length - 1)) (Acn n s p).scs.length false false ((n.kids.take (n.kids.length - 1)).foldl (fun w k=>EY f false s lp ex k.kids (NN (Acn n s p).scs.length k w)) ((Acn n s p).open_ 2 n.at_ s)):=by
  rw[GP];unfold AbE EY Acn;simp[h]
end
section
variable{e:We}{r:Fz}{w:World}{a:WA}{l:List En}{f:Nat}{n:Nd}{x:JA}{s:Nat}{lp ex:Bool}{K:Unit→World→Prop}
theorem Au8{r0:Fz}{a0:WA}{L:List En}{k inn b35:Nat}{p:Wp}{kd:Nd}{y:JA}{sc:ScA}{K:World→Prop}(g:Gw e r0 a0 L (k+1) p r a w)(hs:a.scs[inn]? = some sc)(hy : .box b35 (.cells y.cells 27)∈L)(hya:y.At=kd.at_)(hyt:y.Text=kd.text)
    (c:∀ a' w',Gw e r0 a0 L k (NN inn kd p) r a' w'→a.Le a'→K w') :
    YU (some ⟨sc.bs,0,none⟩) y.Text y.At true (fun _ w=>
      QO ((⟨b35,0,none⟩:Addr).add 2) (fun(s39:ByteArray) w=>
        UK (some ⟨sc.bs,0,none⟩) s39 (fun(p40:Option Addr) w=>
          nn p40 fun a41=>
          HN (a41.add 3) true (fun w=>
            dw (fun w=>
              ∃ S42:World→Prop,S42 w∧
              nn (some (⟨sc.bs,0,none⟩:Addr)) fun a43=>
              AaB S42 (a43.add 4) fun(l44:Sl)=>
              YY S42 ((⟨b35,0,none⟩:Addr).add 2) fun(s45:ByteArray)=>
              bx (.cells #[.string s45] 9) (fun a46 w=>
                S42 w∧
                rn (Builtin.append_ #[76,76] 76 #[l44.v,.slice (some a46) 1 1]) hSl (fun(l47:Sl) w=>
                  S42 w∧
                  nn (some (⟨sc.bs,0,none⟩:Addr)) fun a48=>
                  Aaa (a48.add 4) l47 K w) w) w) w) w) w) w) w:=by
  refine Ami g.h hs y.Text y.At true fun a1 s1 w h hs1 hle1 her1 hb1 hlat1 => ?_
  refine YS (x:=y.Text) (h.cells hy 2 _ rfl) ?_
  rw[← hb1]
  refine ApL h hs1 y.Text fun a2 s2 nm w h hs2 hle2 her2 hg2 hb2 hlat2 => ?_
  obtain⟨j,hj⟩:=BP hg2
  have hbn:w.heap[nm.bn]? = some (.cells nm.cells 107 (0,0)):=by
    refine h.1.heap (List.mem_append_left _ (List.mem_append_right _ (List.mem_flatMap.2 ⟨_,List.mem_of_getElem? hs2,List.mem_append_right _ (List.mem_flatMap.2 ⟨(_,nm),List.mem_of_getElem? hj,?_⟩)⟩)))
    simp[NmA.en]
  refine JM rfl ?_
  show HN ⟨nm.bn,3,none⟩ true _ w
  refine KJ hbn (by rw[NmA.size];decide) fun w hset => ?_
  let nm':NmA:={ nm with n:={ nm.n with param:=true } }
  have hok2:=h.2.sc s2 (List.mem_of_getElem? hs2)
  have hle3:=AeY (n':=nm') h hs2 hj rfl
  have her3:=Akg (a:=a2) (n':=nm') (f:=fun m=>{ m with param:=true }) hok2 hs2 hj rfl
  replace h:=h.nmSet (n':=nm') hs2 hj rfl rfl rfl rfl rfl hset
  have hs3:=SW hs2 (s2.setN j y.Text nm')
  have hb3:(s2.setN j y.Text nm').bs=s1.bs:=hb2
  generalize s2.setN j y.Text nm'=s3 at *
  generalize a2.setS inn s3=a3 at *
  obtain⟨cc,hc0,hcc,hfew⟩:=g.b.few
  have hfew1:∀ q∈a1.er.scs,q.few (cc+(0:Nat)):=by rw[her1];exact(Wp.sub_occ a.er inn y.Text y.At true).few cc hc0 hfew
  have hfew3:∀ q∈a3.er.scs,q.few (cc+(0:Nat)+(0:Nat)+(0:Nat)):=by
    rw[her3,her2]
    exact(Wp.sub_mod _ inn (fun c=>c.upd y.Text fun m=>{ m with param:=true }) fun _=>⟨rfl,rfl⟩).few _ (by omega) ((Wp.sub_mod _ inn (·.of y.Text) (Aep y.Text)).few _ (by omega) hfew1)
  have hpar:=(hfew3 s3.er (List.mem_of_getElem? (WA.er_at hs3))).2.2
  have hpar:(s3.params.length:Int)≤cc+(0:Nat)+(0:Nat)+(0:Nat):=hpar
  refine h.dw fun w h => ?_
  rw[← hb3]
  refine⟨fun w'=>JD w' ⟨s3.bs,0,none⟩ s3.cells.toList∧JD w' ⟨b35,0,none⟩ y.cells.toList,⟨h.sc hs3,h.cells hy⟩,JM rfl ?_⟩
  refine Aec (x:=s3.ps) (fun w' h=>h.1 4 _ rfl) (YO (x:=y.Text) (fun w' h=>h.2 2 _ rfl) ?_)
  refine h.bx fun bc w h=>⟨⟨h.sc hs3,h.cells (List.mem_cons_of_mem _ hy)⟩,?_⟩
  refine AoY h hs3 hy (by omega) fun ps w h => ?_
  have hle4:a3.Le (a3.setS inn (s3.par1 y.Text ps)):=WA.le_set hs3 rfl fun t m hm=>⟨m,hm,rfl⟩
  have hle:a.Le (a3.setS inn (s3.par1 y.Text ps)):=hle1.trans (hle2.trans (hle3.trans hle4))
  refine c _ w (g.step (d:=1) (F:=fun p=>NN inn kd p) h (fun _ h=>h) hle ?_ (Wp.sub_par inn kd a.er)) hle
  have e4:(a3.setS inn (s3.par1 y.Text ps)).er=a3.er.mod inn fun c=>{ c with params:=c.params ++ [y.Text] }:=WA.er_set hs3 rfl
  rw[e4,her3,her2,her1,NY,NY]
  unfold NN
  rw[hya,hyt]
  unfold Sc.upd
  rw[show a.er.occ inn kd.text kd.at_ true=a.er.mod inn fun s=>s.occ kd.text kd.at_ true from rfl,NY,NY]
  have hparams:∀ c:Sc,(c.of kd.text).params=c.params:=fun c=>(Aep kd.text c).2
  congr 1
  funext c
  rw[hparams]
end
end Go.Proofs.YtjiagmjfnbljjaaGreatDoor
end
section
namespace Go.Proofs.YtjiagmjfnbljjaaGreatDoor
open Go Go.MapKept
set_option maxHeartbeats 4000000
set_option linter.unusedVariables false
set_option linter.unusedSimpArgs false
theorem HS.to1{w:World}{B:Nat}{ks:List Nd}{s:Sl}(h:HS w B ks s){j:Nat}(hj:j≤ks.length):HS w B (ks.take j) (s.to_ j):=by
  obtain⟨h1,h2,h3,h4⟩:=h
  refine⟨by simp[Sl.to_];omega,by simp[Sl.to_];omega,h3,?_⟩
  show IS w B (ks.take j) s.a
  clear h1 h2 h3 hj
  revert h4
  generalize s.a=p
  induction ks generalizing p j with
  | nil=>intro h;simpa using h
  | cons k ks ih=>
    intro h
    cases j with
    | zero=>unfold IS;trivial
    | succ j=>
      unfold IS at h
      obtain⟨a,ha,hb,hx,hr⟩:=h
      rw[List.take_succ_cons]
      unfold IS
      exact⟨a,ha,hb,hx,ih _ hr⟩
section
variable{e:We}{r:Fz}{w:World}{a:WA}{l:List En}{f:Nat}{n:Nd}{x:JA}{s:Nat}{lp ex:Bool}{K:Unit→World→Prop}
  (hN:NdW e f) (hw:n.wt<f+1) (h:WMr e r w a l) (hx:Rep e.w0 e.w0.heap.size n x) (hv:vis n=true) (hs:s<a.scs.length) (hb:Bnd a n.wt)
  (c:Cn e r a l (ndS (f+1) false n s lp ex) K)
include hN hw h hx hv hs hb c
theorem Auy(h18:n.kind=18):KA (some ⟨e.bw,0,none⟩) x ⟨(s:Int),lp,ex⟩ K w:=by
  refine Adl _ _ _ _ _ ?_
  unfold TX
  have hk:=hx.kids
  have hlen:1≤n.kids.length:=by have:=AjD hv;rw[h18] at this;exact this
  have hvk:=AcM hv
  have hwt:=n.wt_eq
  have hkl:=Nd.wts_length n.kids
  have hs':s<a.er.scs.length:=by rw[EH];exact hs
  have hsc':=hb.scs
  have ge:∀ (t:Bool) (m:Nd) (s':Nat) (lp ex:Bool) (p:Wp),p.scs.length≤(ndS f t m s' lp ex p).scs.length:=fun t m s' lp ex p=>(MW f t m s' lp ex p).ge
  have hlast:=ApB n.kids
  have hkw:kw n.kids (n.kids.length - 1)=2 * (n.kids[n.kids.length - 1]).wt:=by
    unfold kw
    rw[List.getElem?_eq_getElem (by omega)]
  have hn:=hk.1
  have hnc:=hk.2.1
  have g:=Gw.start h hb
  refine g.bx fun r1 w g=>g.bx fun a2 w g => ?_
  refine UG (x:=x.Kids) (g.h.cells me1 5 _ rfl) (UG (x:=x.Kids) (g.h.cells me1 5 _ rfl) ?_)
  have hwl:IntKind.i64.wrap ((x.Kids.n:Int) - 1)=((n.kids.length - 1:Nat):Int):=by rw[JY (by omega) (by omega)];omega
  rw[hwl]
  refine ApY NP (by omega) (by omega) ?_
  have hpar:HS e.w0 e.w0.heap.size (n.kids.take (n.kids.length - 1)) (x.Kids.to_ (n.kids.length - 1)):=hk.to1 (by omega)
  have htn:((n.kids.length - 1:Nat):Int).toNat=n.kids.length - 1:=by omega
  rw[htn]
  refine g.dw fun w g => ?_
  obtain⟨sc,hsc⟩:∃ sc,a.scs[s]? = some sc:=⟨_,List.getElem?_eq_getElem hs⟩
  obtain⟨pL,hpL,hsn,_⟩:=g.h.scope hsc
  refine⟨fun w'=>JD w' ⟨e.bw,0,none⟩ [a.L.v,UC e.bl,a.Lt.v]∧JD w' ⟨a2,0,none⟩ (JB.cells ⟨(s:Int),lp,ex⟩).toList∧OQ w' a.L (a.scs.map ScA.ptr)∧JD w' ⟨r1,0,none⟩ x.cells.toList,⟨g.h.top,g.h.cells me0,g.h.rowL.1,g.h.cells me1⟩,JM rfl ?_⟩
  refine VA (x:=a.L) (fun w' h=>by simpa [JP] using h.1 0 _ rfl) (JV (x:=(s:Int)) (fun w' h=>by simpa [JP] using h.2.1 0 _ rfl) ?_)
  refine JM hpL ⟨by omega,by omega,?_⟩
  refine VN (x:=some ⟨sc.bs,0,none⟩) (fun w' h=>by
    have:=h.2.2.1.2 pL hpL s sc.ptr (by rw[List.getElem?_map,hsc];rfl)
    simpa [ScA.ptr] using this) ?_
  refine YO (x:=x.Text) (fun w' h=>h.2.2.2 2 _ rfl) (JV (x:=x.At) (fun w' h=>h.2.2.2 1 _ rfl) ?_)
  rw[hx.text,hx.at_]
  refine g.occurs hsc fun a1 w g => ?_
  refine g.dw fun w g => ?_
  refine⟨fun w'=>JD w' ⟨e.bw,0,none⟩ [a1.L.v,UC e.bl,a1.Lt.v]∧JD w' ⟨r1,0,none⟩ x.cells.toList,⟨g.h.top,g.h.cells me1⟩,JM rfl ?_⟩
  refine BH (x:=⟨18,#[.pointer (some ⟨e.bl,0,none⟩)]⟩) (fun w' h=>h.1 1 _ rfl) (JV (x:=x.At) (fun w' h=>h.2 1 _ rfl) ?_)
  rw[hx.at_]
  refine g.fault fun a1 w g => ?_
  refine g.twice (Src.tree hpar) (by rw[List.length_take];omega) fun a1 w g => ?_
  have hhead:AD [] (n.kids.take (n.kids.length - 1)) ((a.er.occ s n.text n.at_ true).fault 109 n.at_ (decide (((x.Kids.to_ (n.kids.length - 1)).n:Int) > 1000)))=Acn n s a.er:=rfl
  rw[hhead] at g
  have hsubH:a.er.sub (Acn n s a.er) 0:=Wp.sub_trans (d:=0) (d':=0) (Wp.sub_trans (d:=0) (d':=0) (Wp.sub_occ _ _ _ _ _) (Wp.sub_fault _ _ _ _)) (Wp.sub_twice _ _ _)
  generalize hH:Acn n s a.er=H at g hsubH
  refine QV (g.h.cells me1) (JO (x:=(s:Int)) (by simpa [JP] using g.h.cells me0 0 _ rfl) ?_)
  refine(g.mono (k':=Nd.wts n.kids+1) (by omega)).opn fun a1 w g => ?_
  rw[hx.at_] at g
  have hin:H.scs.length<(H.open_ 2 n.at_ s).scs.length:=by show _<(H.scs ++ [_]).length;simp
  have hop:=(Wp.sub_open H 2 n.at_ s).ge
  have hsH:s<H.scs.length:=Nat.lt_of_lt_of_le hs' hsubH.ge
  refine g.bx fun in6 w g => ?_
  have hy:w.heap[in6]? = some (.cells #[.int .i64 0,.bool false,.bool false] 63 (0,0)):=g.h.1.heap (List.mem_append_right _ me0)
  refine HO hy (Nat.le_of_eq rfl) fun w hset => ?_
  rw[QH (by rfl)] at hset
  replace g:Gw e r a (.box in6 (.cells (JB.cells ⟨(H.scs.length:Int),false,false⟩) 63) :: .box a2 (.cells (JB.cells ⟨(s:Int),lp,ex⟩) 63) :: .box r1 (.cells x.cells 27) :: l) (Nd.wts n.kids) (H.open_ 2 n.at_ s) r a1 w:=g.set (i:=0) rfl hset
  refine g.dw fun w g => ?_
  have hlenI:=g.len
  obtain⟨sI,hsI⟩:∃ sI,a1.scs[H.scs.length]? = some sI:=⟨_,List.getElem?_eq_getElem (by omega)⟩
  obtain⟨pL2,hpL2,hsn2,_⟩:=g.h.scope hsI
  refine⟨fun w'=>JD w' ⟨e.bw,0,none⟩ [a1.L.v,UC e.bl,a1.Lt.v]∧JD w' ⟨in6,0,none⟩ (JB.cells ⟨(H.scs.length:Int),false,false⟩).toList∧OQ w' a1.L (a1.scs.map ScA.ptr),⟨g.h.top,g.h.cells me0,g.h.rowL.1⟩,JM rfl ?_⟩
  refine VA (x:=a1.L) (fun w' h=>by simpa [JP] using h.1 0 _ rfl) (JV (x:=(H.scs.length:Int)) (fun w' h=>by simpa [JP] using h.2.1 0 _ rfl) ?_)
  refine JM hpL2 ⟨by omega,by omega,?_⟩
  refine VN (x:=some ⟨sI.bs,0,none⟩) (fun w' h=>by
    have:=h.2.2.2 pL2 hpL2 H.scs.length sI.ptr (by rw[List.getElem?_map,hsI];rfl)
    simpa [ScA.ptr] using this) ?_
  have hpn:=hpar.1
  have hsplit:Nd.wts (n.kids.take (n.kids.length - 1))+(n.kids[n.kids.length - 1]).wt≤Nd.wts n.kids:=by omega
  have hpm:∀ kd∈n.kids.take (n.kids.length - 1),kd∈n.kids:=fun kd h=>List.mem_of_mem_take h
  generalize hP:n.kids.take (n.kids.length - 1)=P at hpar hpn hsplit hpm
  have hPl:P.length=n.kids.length - 1:=by rw[← hP,List.length_take];omega
  generalize x.Kids.to_ (n.kids.length - 1)=sl5 at hpar hpn
  have hle0:=g.le
  replace g:Gw e r a1 _ _ _ r a1 w:=⟨g.h,fun _ h=>h,.refl a1,g.er,g.b⟩
  refine YE (fun m (i:Int) w'=>∃ (k:Nat) (r':Fz) (a':WA) (p:Wp),i=k∧m+k=P.length∧Gw e r a1 (.box in6 (.cells (JB.cells ⟨(H.scs.length:Int),false,false⟩) 63) :: .box a2 (.cells (JB.cells ⟨(s:Int),lp,ex⟩) 63) :: .box r1 (.cells x.cells 27) :: l) (Nd.wts (P.drop k)+(n.kids[n.kids.length - 1]).wt) p r' a' w'∧H.scs.length<p.scs.length∧(P.drop k).foldl (fun w k=>EY f false s lp ex k.kids (NN H.scs.length k w)) p=P.foldl (fun w k=>EY f false s lp ex k.kids (NN H.scs.length k w)) (H.open_ 2 n.at_ s)) P.length (0:Int) rfl ⟨0,r,a1,_,rfl,rfl,g.mono (by simpa using hsplit),hin,rfl⟩ ?_
  clear g
  rintro m i w1 ⟨k,r',a',p,rfl,hm,g,hpl,hfold⟩ again hag
  refine JE (fun hlt => ?_) (fun hge => ?_)
  · have hlt:k<P.length:=by simp at hlt;omega
    have hmem:=List.getElem_mem hlt
    have hkw1:=Nd.wts_mem (hpm _ hmem)
    have hkw2:=(P[k]).wt_eq
    have hdr:Nd.wts (P.drop k)=P[k].wt+Nd.wts (P.drop (k+1)):=by rw[List.drop_eq_getElem_cons hlt];rfl
    refine Atg g.h hpar hlt fun y hy => ?_
    refine g.bx fun a35 w g => ?_
    have hb35:w.heap[a35]? = some (.cells #[.int .i64 0,.int .i64 0,.string (⟨#[]⟩:ByteArray),.bool false,.slice none 0 0,.slice none 0 0] 27 (0,0)):=g.h.1.heap (List.mem_append_right _ me0)
    refine XH hb35 (Nat.le_of_eq rfl) fun w hset => ?_
    rw[QH (by rfl)] at hset
    replace g:=g.set (i:=0) rfl hset
    refine YS (x:=y.Text) (g.h.cells me0 2 _ rfl) (JO (x:=y.At) (g.h.cells me0 1 _ rfl) ?_)
    obtain⟨sc2,hsc2,hbs2,_⟩:=g.le _ _ hsI
    rw[← hbs2]
    refine Au8 (k:=Nd.wts (P.drop (k+1))+(n.kids[n.kids.length - 1]).wt+Nd.wts P[k].kids) (inn:=H.scs.length) (b35:=a35) (g.mono (by omega)) hsc2 me0 hy.at_ hy.text fun a3 w g hle3 => ?_
    refine UG (x:=y.Kids) (g.h.cells me0 5 _ rfl) (XF (x:=⟨(s:Int),lp,ex⟩) (g.h.cells me2) ?_)
    have hgp:=(Wp.sub_par H.scs.length P[k] p).ge
    refine g.all hN (fun q hq=>by have:=Nd.wts_mem hq;omega) hy.kids (AcM (hvk _ (hpm _ hmem))) (by omega) fun r2 a4 w g => ?_
    rw[ZS (n:=P.length) (by omega) (by omega) (by omega)]
    refine hag (m - 1) ((k:Int)+1) w (by omega) ⟨k+1,r2,a4,_,by omega,by omega,g.sub (List.sublist_cons_self _ _),Nat.lt_of_lt_of_le (Nat.lt_of_lt_of_le hpl hgp) (AeN false s lp ex _ _).ge,?_⟩
    rw[← hfold,List.drop_eq_getElem_cons hlt]
    rfl
  · have hge:k=P.length:=by simp at hge;omega
    rw[hge,List.drop_length] at hfold
    simp only[List.foldl_nil] at hfold
    replace g:Gw e r a _ _ _ r' a' w1:=⟨g.h,g.hr,hle0.trans g.le,g.er,g.b⟩
    refine g.dw fun w g => ?_
    refine⟨SN e r1 x in6 ⟨(H.scs.length:Int),false,false⟩,g.sn me2 me0,ZY (x:=x.Kids) (fun w' h=>h.2.1 5 _ rfl) ?_⟩
    refine ArL (S:=SN e r1 x in6 ⟨(H.scs.length:Int),false,false⟩) (fun w' h=>h.1) hk (i:=n.kids.length - 1) (by omega) fun y hy => ?_
    refine EK (x:=⟨(H.scs.length:Int),false,false⟩) (fun w' h=>h.2.2) ?_
    have hkw1:=Nd.wts_mem (List.getElem_mem (l:=n.kids) (n:=n.kids.length - 1) (by omega))
    refine(g.mono (k':=0+(n.kids[n.kids.length - 1]).wt) (by omega)).node hN (by omega) hy (hvk _ (List.getElem_mem _)) hpl fun r2 a4 w g => ?_
    refine Rt.mk (h:=QK) () (g.done c (((List.sublist_cons_self _ _).trans (List.sublist_cons_self _ _)).trans (List.sublist_cons_self _ _)) ?_)
    rw[AuS h18,OK (by omega),hP,hH,hfold]
end
end Go.Proofs.YtjiagmjfnbljjaaGreatDoor
end
section
namespace Go.Proofs.YtjiagmjfnbljjaaGreatDoor
open Go Go.MapKept
set_option maxHeartbeats 4000000
set_option linter.unusedVariables false
set_option linter.unusedSimpArgs false
def Apn(e:We):Prop:=∀ ⦃r0 r:Fz⦄ ⦃a0 a:WA⦄ ⦃L:List En⦄ ⦃k:Nat⦄ ⦃p:Wp⦄ ⦃w:World⦄ ⦃n:Nd⦄ ⦃x:JA⦄ ⦃K:Unit→World→Prop⦄,Gw e r0 a0 L k p r a w→Rep e.w0 e.w0.heap.size n x→n.wt≤2147483648→
  (∀ a' w',Gw e r0 a0 L k (AD [] (n.kids.filter fun k=>k.kind==52) p) r a' w'→K () w')→
  GV x.Kids (fun(l119:Sl) w=>XM l119 ⟨51,#[]⟩ (fun(l120:Sl) w=>GN (some ⟨e.bw,0,none⟩) l120 K w) w) w
section
variable{f:Nat}{tgt lp ex:Bool}{n:Nd}{s:Nat}{p:Wp}
theorem ArZ(h:n.kind=31):ndS (f+1) tgt n s lp ex p=p.occ s n.text n.at_ tgt:=by
  rw[GP];unfold AbE;simp[h]
theorem AuY(h:n.kind=4∨n.kind=5∨n.kind=6∨n.kind=7):ndS (f+1) tgt n s lp ex p=EY f false s lp ex (n.kids.drop 1) (ndS f true (n.kid 0) s lp ex p):=by
  rw[GP];unfold AbE EY
  rcases h with h | h | h | h<;>simp[h]
theorem Au1(h:n.kind=9∨n.kind=10):ndS (f+1) tgt n s lp ex p=p.fault 111 n.at_ (!lp):=by
  rw[GP];unfold AbE
  rcases h with h | h<;>simp[h]
theorem AuN(h:n.kind=11):ndS (f+1) tgt n s lp ex p=EY f false s lp ex n.kids (p.fault 112 n.at_ (p.kindOf s != 2)):=by
  rw[GP];unfold AbE EY;simp[h]
theorem AuO(h:n.kind=12):ndS (f+1) tgt n s lp ex p=EY f false s lp ex n.kids (p.fault 113 n.at_ ((n.kid 0).kind==0 && !ex)):=by
  rw[GP];unfold AbE EY;simp[h]
theorem AuP(h:n.kind=13∨n.kind=14):ndS (f+1) tgt n s lp ex p=n.kids.foldl (fun p k=>PK n.kind s k p) p:=by
  rw[GP];unfold AbE
  rcases h with h | h<;>simp[h]
theorem AuT(h:n.kind=20):ndS (f+1) tgt n s lp ex p=ndS f false (n.kid 1) (p.occ s n.text n.at_ true).scs.length false false (ndS f false (n.kid 0) s lp ex ((p.occ s n.text n.at_ true).open_ 3 n.at_ s)):=by
  rw[GP];unfold AbE;simp[h]
theorem Au0(h:n.kind=51):ndS (f+1) tgt n s lp ex p=EY f false s lp ex n.kids (AD [] (n.kids.filter fun k=>k.kind==52) (p.many n)):=by
  rw[GP];unfold AbE EY;simp[h]
theorem AuX(h:n.kind=35∨n.kind=36∨n.kind=37∨n.kind=38):ndS (f+1) tgt n s lp ex p=EY f false s lp ex n.kids (p.many n):=by
  rw[GP];unfold AbE EY
  rcases h with h | h | h | h<;>simp[h]
theorem AuW(h:n.kind=23):ndS (f+1) true n s lp ex p=EY f true s lp ex n.kids (p.many n):=by
  rw[GP];unfold AbE EY;simp[h]
theorem Atq(h31:¬ n.kind=31)(h23:¬ n.kind=23):ndS (f+1) true n s lp ex p=ndS (f+1) false n s lp ex p:=by
  rw[GP,GP];unfold AbE;simp[h31,h23]
end
def ks2:List Int:=[31,4,5,6,7,9,10,11,12]
def ks3:List Int:=ks2 ++ [13,14]
def ks4:List Int:=ks3 ++ [17,16,21,22,18,20]
def ks5:List Int:=ks4 ++ [41,42,43,51]
def ks6:List Int:=ks5 ++ [35,36,37,38]
theorem Ar0{f:Nat}{lp ex:Bool}{n:Nd}{s:Nat}{p:Wp}(h:∀ v∈ks6,n.kind≠v):EY f false s lp ex n.kids p=ndS (f+1) false n s lp ex p:=by
  rw[GP];unfold AbE EY
  simp only[ks6,ks5,ks4,ks3,ks2,List.cons_append,List.nil_append,List.forall_mem_cons] at h
  obtain⟨h1,h2,h3,h4,h5,h6,h7,h8,h9,h10,h11,h12,h13,h14,h15,h16,h17,h18,h19,h20,h21,h22,h23,h24,h25,_⟩:=h
  simp[h1,h2,h3,h4,h5,h6,h7,h8,h9,h10,h11,h12,h13,h14,h15,h16,h17,h18,h19,h20,h21,h22,h23,h24,h25]
theorem Aju{L:List Int}{n:Nd}(h:∀ v∈L,n.kind≠v){M:List Int}(hm:∀ v∈M,n.kind≠v):∀ v∈L++M,n.kind≠v:=fun v hv=>(List.mem_append.1 hv).elim (h v) (hm v)
section
variable{e:We}{r:Fz}{w:World}{a:WA}{l:List En}{f:Nat}{n:Nd}{x:JA}{s:Nat}{lp ex:Bool}{K:Unit→World→Prop}
  (hC:Apn e) (hN:NdW e f) (hw:n.wt<f+1) (h:WMr e r w a l) (hx:Rep e.w0 e.w0.heap.size n x) (hv:vis n=true) (hs:s<a.scs.length) (hb:Bnd a n.wt)
  (c:Cn e r a l (ndS (f+1) false n s lp ex) K)
include hC hN hw h hx hv hs hb c
theorem ApJ:ZF (some ⟨e.bw,0,none⟩) x ⟨(s:Int),lp,ex⟩ K w:=by
  refine Acb _ _ _ _ _ ?_
  unfold RS
  have hk:=hx.kids
  have hlen:=AjD hv
  have hvk:=AcM hv
  have hwt:=n.wt_eq
  have hs':s<a.er.scs.length:=by rw[EH];exact hs
  have ge:∀ (t:Bool) (m:Nd) (s':Nat) (lp ex:Bool) (p:Wp),p.scs.length≤(ndS f t m s' lp ex p).scs.length:=fun t m s' lp ex p=>(MW f t m s' lp ex p).ge
  have hkw:∀ k∈n.kids,k.wt<f:=fun k hk=>by have:=Nd.wts_mem hk;omega
  have hbn:=hb
  have g:=Gw.start h hb
  refine g.bx fun r1 w g=>g.bx fun a2 w g=>g.dw fun w g => ?_
  obtain⟨sc,hsc⟩:∃ sc,a.scs[s]? = some sc:=⟨_,List.getElem?_eq_getElem hs⟩
  obtain⟨pL,hpL,hsn,_⟩:=g.h.scope hsc
  refine⟨fun w'=>JD w' ⟨e.bw,0,none⟩ [a.L.v,UC e.bl,a.Lt.v]∧JD w' ⟨a2,0,none⟩ (JB.cells ⟨(s:Int),lp,ex⟩).toList∧OQ w' a.L (a.scs.map ScA.ptr),⟨g.h.top,g.h.cells me0,g.h.rowL.1⟩,JM rfl ?_⟩
  refine VA (x:=a.L) (fun w' h=>by simpa [JP] using h.1 0 _ rfl) (JV (x:=(s:Int)) (fun w' h=>by simpa [JP] using h.2.1 0 _ rfl) ?_)
  refine JM hpL ⟨by omega,by omega,?_⟩
  refine VN (x:=some ⟨sc.bs,0,none⟩) (fun w' h=>by
    have:=h.2.2.2 pL hpL s sc.ptr (by rw[List.getElem?_map,hsc];rfl)
    simpa [ScA.ptr] using this) ?_
  have sub:List.Sublist l (.box a2 (.cells (JB.cells ⟨(s:Int),lp,ex⟩) 63) :: .box r1 (.cells x.cells 27) :: l):=(List.sublist_cons_self _ _).trans (List.sublist_cons_self _ _)
  -- all kids
  have fin:∀ {r':Fz} {a':WA} {w:World} {p:Wp},Gw e r a (.box a2 (.cells (JB.cells ⟨(s:Int),lp,ex⟩) 63) :: .box r1 (.cells x.cells 27) :: l) n.wt p r' a' w→s<p.scs.length→EY f false s lp ex n.kids p=ndS (f+1) false n s lp ex a.er→
      JZ ((⟨r1,0,none⟩:Addr).add 5) (fun(l131:Sl) w=>YF ⟨a2,0,none⟩ (fun(x132:JB) w=>ZU (some ⟨e.bw,0,none⟩) l131 x132 (fun(x133:Unit) w=>Rt QK K (.tuple #[]) w) w) w) w:=by
    intro r' a' w p g hp hF
    refine UG (x:=x.Kids) (g.h.cells me1 5 _ rfl) (XF (x:=⟨(s:Int),lp,ex⟩) (g.h.cells me0) ?_)
    refine(g.mono (k':=0+Nd.wts n.kids) (by omega)).all hN hkw hk hvk hp fun r2 a2 w g=>Rt.mk (h:=QK) () (g.done c sub hF)
  have k5:∀ b:Bool,(b=true→n.kind=35∨n.kind=36∨n.kind=37∨n.kind=38)→(b=false→∀ v∈ks6,n.kind≠v)→∀ {w:World},Gw e r a (.box a2 (.cells (JB.cells ⟨(s:Int),lp,ex⟩) 63) :: .box r1 (.cells x.cells 27) :: l) n.wt a.er r a w→VE (Rt QK K) (some ⟨e.bw,0,none⟩) ⟨r1,0,none⟩ ⟨a2,0,none⟩ b w:=by
    intro b hb1 hb0 w g
    unfold VE
    refine JE (fun hb => ?_) (fun hb => ?_)
    · refine QV (g.h.cells me1) (g.many hx fun a' w g => ?_)
      exact fin g (Nat.lt_of_lt_of_le hs' (Wp.sub_many _ _).ge) (AuX (hb1 hb)).symm
    · exact fin g hs' (Ar0 (hb0 hb))
  have cr:∀ {F:Wp→Wp},F a.er=ndS (f+1) false n s lp ex a.er→Cn e r a (.box a2 (.cells (JB.cells ⟨(s:Int),lp,ex⟩) 63) :: .box r1 (.cells x.cells 27) :: l) F (fun _ w=>Rt QK K (.tuple #[]) w):=fun hF r' a' w' h hr le er=>Rt.mk (h:=QK) () (c r' a' w' (h.sub sub) hr le (by rw[er,hF]))
  have hbw:=hb.scs
  have k4:∀ b:Bool,(b=true→n.kind=41∨n.kind=42∨n.kind=43)→(b=false→∀ v∈ks4 ++ [41,42,43],n.kind≠v)→∀ {w:World},Gw e r a (.box a2 (.cells (JB.cells ⟨(s:Int),lp,ex⟩) 63) :: .box r1 (.cells x.cells 27) :: l) n.wt a.er r a w→DB (Rt QK K) (some ⟨e.bw,0,none⟩) ⟨r1,0,none⟩ ⟨a2,0,none⟩ n.kind b w:=by
    intro b hb1 hb0 w g
    unfold DB
    refine JE (fun hb => ?_) (fun hb => ?_)
    · exact QV (g.h.cells me1) (XF (x:=⟨(s:Int),lp,ex⟩) (g.h.cells me0) (Arp hN hw g.h hx hv hs hbn (cr rfl) (hb1 hb)))
    refine JE (fun h51 => ?_) (fun h51 => ?_)
    · refine QV (g.h.cells me1) (g.many hx fun a' w g => ?_)
      refine UG (x:=x.Kids) (g.h.cells me1 5 _ rfl) (hC g hx (by omega) fun a' w g => ?_)
      exact fin g (Nat.lt_of_lt_of_le hs' (Nat.le_trans (Wp.sub_many _ _).ge (Wp.sub_twice _ _ _).ge)) (Au0 (by simpa using h51)).symm
    have ng:∀ v∈ks5,n.kind≠v:=fun v hv=>by
      have hv:v∈(ks4 ++ [41,42,43]) ++ [51]:=by simpa [ks5] using hv
      rcases List.mem_append.1 hv with hv | hv
      · exact hb0 hb v hv
      · rw[List.mem_singleton] at hv;subst hv;simpa using h51
    have last:∀ {w:World},Gw e r a (.box a2 (.cells (JB.cells ⟨(s:Int),lp,ex⟩) 63) :: .box r1 (.cells x.cells 27) :: l) n.wt a.er r a w→(n.kind==35)=false→(n.kind==36)=false→(n.kind==37)=false→VE (Rt QK K) (some ⟨e.bw,0,none⟩) ⟨r1,0,none⟩ ⟨a2,0,none⟩ (n.kind==38) w:=fun g h1 h2 h3=>k5 _ (fun h=>.inr (.inr (.inr (by simpa using h)))) (fun h v hv=>by
      have hv:v∈ks5 ++ [35,36,37,38]:=hv
      rcases List.mem_append.1 hv with hv | hv
      · exact ng v hv
      · simp only[List.mem_cons,List.not_mem_nil,or_false] at hv
        rcases hv with rfl | rfl | rfl | rfl
        · simpa using h1
        · simpa using h2
        · simpa using h3
        · simpa using h) g
    refine JE (fun h35=>k5 _ (fun _=>.inl (by simpa using h35)) (fun h=>by rw[h35] at h;cases h) g) (fun h35 => ?_)
    refine JE (fun h36=>k5 _ (fun _=>.inr (.inl (by simpa using h36))) (fun h=>by rw[h36] at h;cases h) g) (fun h36 => ?_)
    exact JE (fun h37=>k5 _ (fun _=>.inr (.inr (.inl (by simpa using h37)))) (fun h=>by rw[h37] at h;cases h) g) (fun h37=>last g h35 h36 h37)
  have k3:∀ b:Bool,(b=true→n.kind=16∨n.kind=17∨n.kind=21∨n.kind=22)→(b=false→∀ v∈ks3 ++ [17,16,21,22],n.kind≠v)→∀ {w:World},Gw e r a (.box a2 (.cells (JB.cells ⟨(s:Int),lp,ex⟩) 63) :: .box r1 (.cells x.cells 27) :: l) n.wt a.er r a w→UN (Rt QK K) (some ⟨e.bw,0,none⟩) ⟨r1,0,none⟩ ⟨a2,0,none⟩ (some ⟨sc.bs,0,none⟩) n.kind b w:=by
    intro b hb1 hb0 w g
    unfold UN
    refine JE (fun hb => ?_) (fun hb => ?_)
    · exact QV (g.h.cells me1) (XF (x:=⟨(s:Int),lp,ex⟩) (g.h.cells me0) (Aqe hN hw g.h hx hv hs hbn (cr rfl) (hb1 hb)))
    refine JE (fun h18 => ?_) (fun h18 => ?_)
    · exact QV (g.h.cells me1) (XF (x:=⟨(s:Int),lp,ex⟩) (g.h.cells me0) (Auy hN hw g.h hx hv hs hbn (cr rfl) (by simpa using h18)))
    refine JE (fun h20 => ?_) (fun h20 => ?_)
    · have h20:n.kind=20:=by simpa using h20
      rw[h20] at hlen
      have hl:1<n.kids.length:=hlen
      have hsum:=Apk hl
      refine YS (x:=x.Text) (g.h.cells me1 2 _ rfl) (JO (x:=x.At) (g.h.cells me1 1 _ rfl) ?_)
      rw[hx.text,hx.at_]
      refine g.occurs hsc fun a1 w g => ?_
      refine QV (g.h.cells me1) (JO (x:=(s:Int)) (by simpa [JP] using g.h.cells me0 0 _ rfl) ?_)
      refine(g.mono (k':=Nd.wts n.kids+1) (by omega)).opn fun a1 w g => ?_
      rw[hx.at_] at g
      have hso:=(Wp.sub_occ a.er s n.text n.at_ true).ge
      have hcc:=AuT (f:=f) (tgt:=false) (lp:=lp) (ex:=ex) (s:=s) (p:=a.er) h20
      generalize a.er.occ s n.text n.at_ true=H at g hso hcc
      have hin:H.scs.length<(H.open_ 3 n.at_ s).scs.length:=by show _<(H.scs ++ [_]).length;simp
      have hop:=(Wp.sub_open H 3 n.at_ s).ge
      refine g.bx fun in6 w g => ?_
      have hy:w.heap[in6]? = some (.cells #[.int .i64 0,.bool false,.bool false] 63 (0,0)):=g.h.1.heap (List.mem_append_right _ me0)
      refine HO hy (Nat.le_of_eq rfl) fun w hset => ?_
      rw[QH (by rfl)] at hset
      replace g:=g.set (i:=0) rfl hset
      refine Aqy (b2:=a2) (q:=⟨(s:Int),lp,ex⟩) (g.mono (k':=n.kids[1].wt+n.kids[0].wt) (by omega)) me2 me1 hk (by omega) fun w y0 g hy0 => ?_
      refine g.node hN (by omega) hy0 (hvk _ (List.getElem_mem _)) (by omega) fun r' a' w g => ?_
      refine ArO (b2:=in6) (q:=⟨(H.scs.length:Int),false,false⟩) (g.mono (k':=0+n.kids[1].wt) (by omega)) me2 me0 hk hl fun w y1 g hy1 => ?_
      refine g.node hN (by omega) hy1 (hvk _ (List.getElem_mem _)) (Nat.lt_of_lt_of_le hin (ge _ _ _ _ _ _)) fun r' a' w g => ?_
      refine Rt.mk (h:=QK) () (g.done c (sub.trans (List.sublist_cons_self _ _)) ?_)
      rw[hcc,OK hl,OK (by omega)]
    have ng:∀ v∈ks4,n.kind≠v:=fun v hv=>by
      have hv:v∈(ks3 ++ [17,16,21,22]) ++ [18,20]:=by simpa [ks4] using hv
      rcases List.mem_append.1 hv with hv | hv
      · exact hb0 hb v hv
      · simp only[List.mem_cons,List.not_mem_nil,or_false] at hv
        rcases hv with rfl | rfl
        · simpa using h18
        · simpa using h20
    refine JE (fun h41=>k4 _ (fun _=>.inl (by simpa using h41)) (fun h=>by rw[h41] at h;cases h) g) (fun h41 => ?_)
    refine JE (fun h42=>k4 _ (fun _=>.inr (.inl (by simpa using h42))) (fun h=>by rw[h42] at h;cases h) g) (fun h42 => ?_)
    exact k4 _ (fun h=>.inr (.inr (by simpa using h))) (fun h=>Aju ng fun v hv=>by
      simp only[List.mem_cons,List.not_mem_nil,or_false] at hv
      rcases hv with rfl | rfl | rfl
      · simpa using h41
      · simpa using h42
      · simpa using h) g
  have k2:∀ b:Bool,(b=true→n.kind=13∨n.kind=14)→(b=false→∀ v∈ks3,n.kind≠v)→∀ {w:World},Gw e r a (.box a2 (.cells (JB.cells ⟨(s:Int),lp,ex⟩) 63) :: .box r1 (.cells x.cells 27) :: l) n.wt a.er r a w→AR (Rt QK K) (some ⟨e.bw,0,none⟩) ⟨r1,0,none⟩ ⟨a2,0,none⟩ (some ⟨sc.bs,0,none⟩) n.kind b w:=by
    intro b hb1 hb0 w g
    unfold AR
    refine JE (fun hb => ?_) (fun hb => ?_)
    · have hkl:=Nd.wts_length n.kids
      exact QV (g.h.cells me1) (XF (x:=⟨(s:Int),lp,ex⟩) (g.h.cells me0) (AoH g.h hx hs (hbn.mono (by omega)) (cr (AuP (hb1 hb)).symm)))
    refine JE (fun h1=>k3 _ (fun _=>.inr (.inl (by simpa using h1))) (fun h=>by rw[h1] at h;cases h) g) (fun h1 => ?_)
    refine JE (fun h2=>k3 _ (fun _=>.inl (by simpa using h2)) (fun h=>by rw[h2] at h;cases h) g) (fun h2 => ?_)
    refine JE (fun h3=>k3 _ (fun _=>.inr (.inr (.inl (by simpa using h3)))) (fun h=>by rw[h3] at h;cases h) g) (fun h3 => ?_)
    exact k3 _ (fun h=>.inr (.inr (.inr (by simpa using h)))) (fun h=>Aju (hb0 hb) fun v hv=>by
      simp only[List.mem_cons,List.not_mem_nil,or_false] at hv
      rcases hv with rfl | rfl | rfl | rfl
      · simpa using h1
      · simpa using h2
      · simpa using h3
      · simpa using h) g
  -- what a fault is asked from
  have FS:∀ {w:World} {a':WA} {p:Wp},Gw e r a (.box a2 (.cells (JB.cells ⟨(s:Int),lp,ex⟩) 63) :: .box r1 (.cells x.cells 27) :: l) n.wt p r a' w→(Ext e.w0 w∧JD w ⟨e.bw,0,none⟩ [a'.L.v,UC e.bl,a'.Lt.v]∧JD w ⟨r1,0,none⟩ x.cells.toList∧JD w ⟨a2,0,none⟩ (JB.cells ⟨(s:Int),lp,ex⟩).toList):=fun g=>⟨g.h.base,g.h.top,g.h.cells me1,g.h.cells me0⟩
  have k1:∀ b:Bool,(b=true→n.kind=9∨n.kind=10)→(b=false→∀ v∈[31,4,5,6,7,9,10],n.kind≠v)→∀ {w:World},Gw e r a (.box a2 (.cells (JB.cells ⟨(s:Int),lp,ex⟩) 63) :: .box r1 (.cells x.cells 27) :: l) n.wt a.er r a w→AQ (Rt QK K) (some ⟨e.bw,0,none⟩) ⟨r1,0,none⟩ ⟨a2,0,none⟩ (some ⟨sc.bs,0,none⟩) n.kind b w:=by
    intro b hb1 hb0 w g
    unfold AQ
    refine JE (fun hb => ?_) (fun hb => ?_)
    · refine g.dw fun w g=>⟨fun w'=>Ext e.w0 w'∧JD w' ⟨e.bw,0,none⟩ [a.L.v,UC e.bl,a.Lt.v]∧JD w' ⟨r1,0,none⟩ x.cells.toList∧JD w' ⟨a2,0,none⟩ (JB.cells ⟨(s:Int),lp,ex⟩).toList,FS g,JM rfl ?_⟩
      refine BH (x:=⟨18,#[.pointer (some ⟨e.bl,0,none⟩)]⟩) (fun w' h=>h.2.1 1 _ rfl) (JV (x:=x.At) (fun w' h=>h.2.2.1 1 _ rfl) (AaC (x:=lp) (fun w' h=>h.2.2.2 1 _ rfl) ?_))
      rw[hx.at_]
      exact g.fault fun a' w g=>Rt.mk (h:=QK) () (g.done c sub (Au1 (hb1 hb)).symm)
    refine JE (fun h11 => ?_) (fun h11 => ?_)
    · refine g.dw fun w g=>⟨fun w'=>(Ext e.w0 w'∧JD w' ⟨e.bw,0,none⟩ [a.L.v,UC e.bl,a.Lt.v]∧JD w' ⟨r1,0,none⟩ x.cells.toList∧JD w' ⟨a2,0,none⟩ (JB.cells ⟨(s:Int),lp,ex⟩).toList)∧JD w' ⟨sc.bs,0,none⟩ sc.cells.toList,⟨FS g,g.h.sc hsc⟩,JM rfl ?_⟩
      refine BH (x:=⟨18,#[.pointer (some ⟨e.bl,0,none⟩)]⟩) (fun w' h=>h.1.2.1 1 _ rfl) (JV (x:=x.At) (fun w' h=>h.1.2.2.1 1 _ rfl) (JM rfl ?_))
      refine JV (x:=sc.kind) (fun w' h=>by simpa [JP] using h.2 0 _ rfl) ?_
      rw[hx.at_]
      refine g.fault fun a' w g=>fin g (Nat.lt_of_lt_of_le hs' (Wp.sub_fault _ _ _ _).ge) ?_
      rw[AuN (by simpa using h11)]
      have:a.er.kindOf s=sc.kind:=by unfold Wp.kindOf;rw[WA.er_at hsc];rfl
      rw[this]
    refine JE (fun h12 => ?_) (fun h12 => ?_)
    · have h12:n.kind=12:=by simpa using h12
      rw[h12] at hlen
      have hl:0<n.kids.length:=hlen
      refine g.dw fun w g=>⟨fun w'=>Ext e.w0 w'∧JD w' ⟨e.bw,0,none⟩ [a.L.v,UC e.bl,a.Lt.v]∧JD w' ⟨r1,0,none⟩ x.cells.toList∧JD w' ⟨a2,0,none⟩ (JB.cells ⟨(s:Int),lp,ex⟩).toList,FS g,JM rfl ?_⟩
      refine BH (x:=⟨18,#[.pointer (some ⟨e.bl,0,none⟩)]⟩) (fun w' h=>h.2.1 1 _ rfl) (JV (x:=x.At) (fun w' h=>h.2.2.1 1 _ rfl) (ZY (x:=x.Kids) (fun w' h=>h.2.2.1 5 _ rfl) ?_))
      obtain⟨pk,y,hpk,_,hcy,hy⟩:=hk.get hl
      have hkn:=hk.1
      refine JM hpk ⟨by omega,by omega,JV (x:=y.Kind) (fun w' h => ?_) ?_⟩
      · have:=hcy.ext h.1 0 _ rfl
        simpa [JP] using this
      rw[hx.at_,hy.kind]
      have hF:=fun q=>(AuO (f:=f) (tgt:=false) (lp:=lp) (ex:=ex) (s:=s) (p:=q) h12).symm
      refine JE (fun hz => ?_) (fun hz => ?_)
      · refine AaC (x:=ex) (fun w' h=>h.2.2.2 2 _ rfl) ?_
        refine g.fault fun a' w g=>fin g (Nat.lt_of_lt_of_le hs' (Wp.sub_fault _ _ _ _).ge) ?_
        rw[← hF,OK hl,hz,Bool.true_and]
      · refine g.fault fun a' w g=>fin g (Nat.lt_of_lt_of_le hs' (Wp.sub_fault _ _ _ _).ge) ?_
        rw[← hF,OK hl,hz,Bool.false_and]
    have ng:∀ v∈ks2,n.kind≠v:=fun v hv=>by
      have hv:v∈[31,4,5,6,7,9,10] ++ [11,12]:=hv
      rcases List.mem_append.1 hv with hv | hv
      · exact hb0 hb v hv
      · simp only[List.mem_cons,List.not_mem_nil,or_false] at hv
        rcases hv with rfl | rfl
        · simpa using h11
        · simpa using h12
    refine JE (fun h1=>k2 _ (fun _=>.inl (by simpa using h1)) (fun h=>by rw[h1] at h;cases h) g) (fun h1 => ?_)
    exact k2 _ (fun h=>.inr (by simpa using h)) (fun h=>Aju ng fun v hv=>by
      simp only[List.mem_cons,List.not_mem_nil,or_false] at hv
      rcases hv with rfl | rfl
      · simpa using h1
      · simpa using h) g
  have k0:∀ b:Bool,(b=true→n.kind=4∨n.kind=5∨n.kind=6∨n.kind=7)→(b=false→∀ v∈[31,4,5,6,7],n.kind≠v)→∀ {w:World},Gw e r a (.box a2 (.cells (JB.cells ⟨(s:Int),lp,ex⟩) 63) :: .box r1 (.cells x.cells 27) :: l) n.wt a.er r a w→UM (Rt QK K) (some ⟨e.bw,0,none⟩) ⟨r1,0,none⟩ ⟨a2,0,none⟩ (some ⟨sc.bs,0,none⟩) n.kind b w:=by
    intro b hb1 hb0 w g
    unfold UM
    refine JE (fun hb => ?_) (fun hb => ?_)
    · have hl:0<n.kids.length:=by
        rcases hb1 hb with h | h | h | h<;>rw[h] at hlen<;>simp[Ajt] at hlen<;>omega
      have hsum:=Avy hl
      refine Aqy (g.mono (k':=Nd.wts (n.kids.drop 1)+n.kids[0].wt) (by omega)) me1 me0 hk hl fun w y0 g hy0 => ?_
      refine g.target hN (by omega) hy0 (hvk _ (List.getElem_mem _)) hs' fun r' a' w g => ?_
      refine kdr g me1 me0 hk 1 (by omega) fun w sl g hsl => ?_
      refine(g.mono (k':=0+Nd.wts (n.kids.drop 1)) (by omega)).all hN (fun k hk=>hkw k (List.mem_of_mem_drop hk)) hsl (fun k hk=>hvk k (List.mem_of_mem_drop hk)) (Nat.lt_of_lt_of_le hs' (ge _ _ _ _ _ _)) fun r' a' w g => ?_
      refine Rt.mk (h:=QK) () (g.done c sub ?_)
      rw[AuY (hb1 hb),OK hl]
    refine JE (fun h1=>k1 _ (fun _=>.inl (by simpa using h1)) (fun h=>by rw[h1] at h;cases h) g) (fun h1 => ?_)
    exact k1 _ (fun h=>.inr (by simpa using h)) (fun h=>Aju (L:=[31,4,5,6,7]) (hb0 hb) fun v hv=>by
      simp only[List.mem_cons,List.not_mem_nil,or_false] at hv
      rcases hv with rfl | rfl
      · simpa using h1
      · simpa using h) g
  refine JO (x:=x.Kind) (by simpa [JP] using g.h.cells me1 0 _ rfl) ?_
  rw[hx.kind]
  refine JE (fun h31 => ?_) (fun h31 => ?_)
  · refine YS (x:=x.Text) (g.h.cells me1 2 _ rfl) (JO (x:=x.At) (g.h.cells me1 1 _ rfl) ?_)
    rw[hx.text,hx.at_]
    exact g.occurs hsc fun a1 w g=>Rt.mk (h:=QK) () (g.done c sub (ArZ (by simpa using h31)).symm)
  refine JE (fun h1=>k0 _ (fun _=>.inl (by simpa using h1)) (fun h=>by rw[h1] at h;cases h) g) (fun h1 => ?_)
  refine JE (fun h2=>k0 _ (fun _=>.inr (.inl (by simpa using h2))) (fun h=>by rw[h2] at h;cases h) g) (fun h2 => ?_)
  refine JE (fun h3=>k0 _ (fun _=>.inr (.inr (.inl (by simpa using h3)))) (fun h=>by rw[h3] at h;cases h) g) (fun h3 => ?_)
  exact k0 _ (fun h=>.inr (.inr (.inr (by simpa using h)))) (fun h v hv=>by
    simp only[List.mem_cons,List.not_mem_nil,or_false] at hv
    rcases hv with rfl | rfl | rfl | rfl | rfl
    · simpa using h31
    · simpa using h1
    · simpa using h2
    · simpa using h3
    · simpa using h) g
end
end Go.Proofs.YtjiagmjfnbljjaaGreatDoor
end
section
namespace Go.Proofs.YtjiagmjfnbljjaaGreatDoor
open Go Go.MapKept
set_option maxHeartbeats 4000000
set_option linter.unusedVariables false
set_option linter.unusedSimpArgs false
section
variable{e:We}{r:Fz}{w:World}{a:WA}{l:List En}{f:Nat}{n:Nd}{x:JA}{s:Nat}{lp ex:Bool}{K:Unit→World→Prop}
  (hC:Apn e) (hN:NdW e f) (hw:n.wt<f+1) (h:WMr e r w a l) (hx:Rep e.w0 e.w0.heap.size n x) (hv:vis n=true) (hs:s<a.scs.length) (hb:Bnd a n.wt)
  (c:Cn e r a l (ndS (f+1) true n s lp ex) K)
include hC hN hw h hx hv hs hb c
theorem Aq0:XO (some ⟨e.bw,0,none⟩) x ⟨(s:Int),lp,ex⟩ K w:=by
  refine AaR _ _ _ _ _ ?_
  unfold ND
  have hk:=hx.kids
  have hvk:=AcM hv
  have hwt:=n.wt_eq
  have hs':s<a.er.scs.length:=by rw[EH];exact hs
  have hbw:=hb.scs
  have hbn:=hb
  have g:=Gw.start h hb
  refine g.bx fun r1 w g=>g.bx fun a2 w g => ?_
  have sub:List.Sublist l (.box a2 (.cells (JB.cells ⟨(s:Int),lp,ex⟩) 63) :: .box r1 (.cells x.cells 27) :: l):=(List.sublist_cons_self _ _).trans (List.sublist_cons_self _ _)
  refine JO (x:=x.Kind) (by simpa [JP] using g.h.cells me1 0 _ rfl) ?_
  rw[hx.kind]
  refine JE (fun h31 => ?_) (fun h31 => ?_)
  · refine g.dw fun w g => ?_
    obtain⟨sc,hsc⟩:∃ sc,a.scs[s]? = some sc:=⟨_,List.getElem?_eq_getElem hs⟩
    obtain⟨pL,hpL,hsn,_⟩:=g.h.scope hsc
    refine⟨fun w'=>JD w' ⟨e.bw,0,none⟩ [a.L.v,UC e.bl,a.Lt.v]∧JD w' ⟨a2,0,none⟩ (JB.cells ⟨(s:Int),lp,ex⟩).toList∧OQ w' a.L (a.scs.map ScA.ptr)∧JD w' ⟨r1,0,none⟩ x.cells.toList,⟨g.h.top,g.h.cells me0,g.h.rowL.1,g.h.cells me1⟩,JM rfl ?_⟩
    refine VA (x:=a.L) (fun w' h=>by simpa [JP] using h.1 0 _ rfl) (JV (x:=(s:Int)) (fun w' h=>by simpa [JP] using h.2.1 0 _ rfl) ?_)
    refine JM hpL ⟨by omega,by omega,?_⟩
    refine VN (x:=some ⟨sc.bs,0,none⟩) (fun w' h=>by
      have:=h.2.2.1.2 pL hpL s sc.ptr (by rw[List.getElem?_map,hsc];rfl)
      simpa [ScA.ptr] using this) ?_
    refine YO (x:=x.Text) (fun w' h=>h.2.2.2 2 _ rfl) (JV (x:=x.At) (fun w' h=>h.2.2.2 1 _ rfl) ?_)
    rw[hx.text,hx.at_]
    exact g.occurs hsc fun a1 w g=>Rt.mk (h:=QK) () (g.done c sub (ArZ (by simpa using h31)).symm)
  refine JE (fun h23 => ?_) (fun h23 => ?_)
  · have h23:n.kind=23:=by simpa using h23
    refine QV (g.h.cells me1) (g.many hx fun a1 w g => ?_)
    refine UG (x:=x.Kids) (g.h.cells me1 5 _ rfl) ?_
    have hm:=(Wp.sub_many a.er n).ge
    have hkl:=Nd.wts_length n.kids
    have hn:=hk.1
    refine YE (fun m (i:Int) w'=>∃ (k:Nat) (r':Fz) (a':WA) (p:Wp),i=k∧m+k=n.kids.length∧Gw e r a (.box a2 (.cells (JB.cells ⟨(s:Int),lp,ex⟩) 63) :: .box r1 (.cells x.cells 27) :: l) (Nd.wts (n.kids.drop k)) p r' a' w'∧s<p.scs.length∧EY f true s lp ex (n.kids.drop k) p=EY f true s lp ex n.kids (a.er.many n)) n.kids.length (0:Int) rfl ⟨0,r,a1,_,rfl,rfl,g.mono (by simp;omega),by omega,rfl⟩ ?_
    clear g
    rintro m i w1 ⟨k,r',a',p,rfl,hmk,g,hp,hfold⟩ again hag
    refine JE (fun hlt => ?_) (fun hge => ?_)
    · have hlt:k<n.kids.length:=by simp at hlt;omega
      have hmem:=List.getElem_mem hlt
      have hkw1:=Nd.wts_mem hmem
      have hdr:Nd.wts (n.kids.drop k)=n.kids[k].wt+Nd.wts (n.kids.drop (k+1)):=by rw[List.drop_eq_getElem_cons hlt];rfl
      refine Atg g.h hk hlt fun y hy => ?_
      refine g.bx fun a35 w g => ?_
      have hb35:w.heap[a35]? = some (.cells #[.int .i64 0,.int .i64 0,.string (⟨#[]⟩:ByteArray),.bool false,.slice none 0 0,.slice none 0 0] 27 (0,0)):=g.h.1.heap (List.mem_append_right _ me0)
      refine XH hb35 (Nat.le_of_eq rfl) fun w hset => ?_
      rw[QH (by rfl)] at hset
      replace g:=g.set (i:=0) rfl hset
      refine QV (g.h.cells me0) (XF (x:=⟨(s:Int),lp,ex⟩) (g.h.cells me1) ?_)
      refine(g.mono (k':=Nd.wts (n.kids.drop (k+1))+n.kids[k].wt) (by omega)).target hN (by omega) hy (hvk _ hmem) hp fun r2 a3 w g => ?_
      rw[ZS (n:=n.kids.length) (by omega) (by omega) (by omega)]
      refine hag (m - 1) ((k:Int)+1) w (by omega) ⟨k+1,r2,a3,_,by omega,by omega,g.sub (List.sublist_cons_self _ _),Nat.lt_of_lt_of_le hp (MW f true _ s lp ex p).ge,?_⟩
      rw[← hfold,List.drop_eq_getElem_cons hlt]
      rfl
    · have hge:k=n.kids.length:=by simp at hge;omega
      rw[hge,List.drop_length] at hfold
      refine Rt.mk (h:=QK) () (g.done c sub ?_)
      rw[AuW h23,← hfold]
      rfl
  · refine QV (g.h.cells me1) (XF (x:=⟨(s:Int),lp,ex⟩) (g.h.cells me0) ?_)
    refine ApJ hC hN hw g.h hx hv hs hbn fun r' a' w' h hr le er=>Rt.mk (h:=QK) () (c r' a' w' (h.sub sub) hr le ?_)
    rw[er,Atq (by simpa using h31) (by simpa using h23)]
end
theorem AmI{e:We}(hC:Apn e):∀ f,NdW e f
  | 0=>fun n x s lp ex r w a l K h=>by omega
  | f+1=>fun n x s lp ex r w a l K hw h hx hv hs hb=>⟨fun c=>ApJ hC (AmI hC f) hw h hx hv hs hb c,fun c=>Aq0 hC (AmI hC f) hw h hx hv hs hb c⟩
end Go.Proofs.YtjiagmjfnbljjaaGreatDoor
end
section
namespace Go.Proofs.YtjiagmjfnbljjaaGreatDoor
open Go Go.MapKept
set_option maxHeartbeats 4000000
set_option linter.unusedVariables false
set_option linter.unusedSimpArgs false
def Sc.gives(s:Sc)(t:ByteArray):Bool:=(s.kind==2 || s.kind==4) && match ZJ s.names t with
  | some n=>n.bound && n.by_==0
  | none=>false
def homeL(p:Wp)(t:ByteArray):Nat→Int→Int
  | 0,_=>-1
  | f+1,i=>if i<0 then -1 else match p.scs[i.toNat]? with
    | some s=>if s.gives t then i else homeL p t f s.around
    | none=>-1
def VZ(p:Wp)(s:Nat)(t:ByteArray):Int:=match p.scs[s]? with
  | some c=>homeL p t (p.scs.length+1) c.around
  | none=>-1
def CX(p:Wp):Prop:=∀ (i:Nat) (s:Sc),p.scs[i]? = some s→-1≤s.around∧s.around<i
section
variable{e:We}{r:Fz}{w:World}{a:WA}{l:List En}
theorem AmQ(h:WMr e r w a l)(ha:CX a.er){s:Nat}(hs:s<a.scs.length)(t:ByteArray){K:Int→World→Prop}(c:K (VZ a.er s t) w):DJ (some ⟨e.bw,0,none⟩) (s:Int) t K w:=by
  refine Ab9 _ _ _ _ _ ?_
  unfold RQ
  obtain⟨s0,hs0⟩:∃ s0,a.scs[s]? = some s0:=⟨_,List.getElem?_eq_getElem hs⟩
  have ldL:∀ {K:Sl→World→Prop},K a.L w→QN ⟨e.bw,0,none⟩ K w:=fun k=>FF (x:=a.L) (by simpa [JP] using h.top 0 _ rfl) k
  have ldP:∀ {i:Nat} {sc:ScA},a.scs[i]? = some sc→∀ {K:Option Addr→World→Prop},K (some ⟨sc.bs,0,none⟩) w→nn a.L.a fun a3=>0≤(i:Int)∧(i:Int)<((a.L.n:Nat):Int)∧ZA (a3.add ((i:Int).toNat * 1)) K w:=by
    intro i sc hi K k
    obtain⟨p,hp,hn,hc⟩:=h.scope hi
    refine JM hp ⟨by omega,by omega,KH (x:=some ⟨sc.bs,0,none⟩) ?_ k⟩
    simpa [ScA.ptr] using hc
  have hhome:VZ a.er s t=homeL a.er t (a.er.scs.length+1) s0.around:=by
    unfold VZ
    rw[WA.er_at hs0];rfl
  rw[hhome] at c
  have ha0:=ha s s0.er (WA.er_at hs0)
  have ha1 : -1≤s0.around:=ha0.1
  have ha2:s0.around<s:=ha0.2
  refine JM rfl (ldL (ldP hs0 (JM rfl (JO (x:=s0.around) (h.sc hs0 2 _ rfl) ?_))))
  refine YE (fun m (i:Int) w'=>w'=w∧-1≤i∧i<a.scs.length∧m=(i+1).toNat∧∃ g:Nat,i+1<(g:Int)∧homeL a.er t g i=homeL a.er t (a.er.scs.length+1) s0.around) (s0.around+1).toNat s0.around rfl ⟨rfl,ha1,by omega,rfl,a.er.scs.length+1,by rw[EH];omega,rfl⟩ ?_
  rintro m i w' ⟨hw',hi0,hi1,hm,g,hg,hL⟩ again hag
  subst w'
  obtain⟨g,rfl⟩:∃ k,g=k+1:=⟨g - 1,by omega⟩
  have hstep:homeL a.er t (g+1) i=if i<0 then -1 else match a.er.scs[i.toNat]? with
    | some s=>if s.gives t then i else homeL a.er t g s.around
    | none=>-1:=rfl
  rw[hstep] at hL
  refine JE (fun hb => ?_) (fun hb => ?_)
  · have hi:0≤i:=by simpa using hb
    obtain⟨k,rfl⟩:∃ k:Nat,i=k:=⟨i.toNat,by omega⟩
    have hk:k<a.scs.length:=by omega
    obtain⟨sc,hsc⟩:∃ sc,a.scs[k]? = some sc:=⟨_,List.getElem?_eq_getElem hk⟩
    rw[if_neg (by omega),Int.toNat_natCast,WA.er_at hsc] at hL
    dsimp only at hL
    have hak:=ha k sc.er (WA.er_at hsc)
    have ha3 : -1≤sc.around:=hak.1
    have ha4:sc.around<k:=hak.2
    have hok:=h.2.sc sc (List.mem_of_getElem? hsc)
    have k0:sc.er.gives t=false→YI again (some ⟨e.bw,0,none⟩) (k:Int) w:=by
      intro hf
      rw[if_neg (ne_true_of_eq_false hf)] at hL
      unfold YI
      refine JM rfl (ldL (ldP hsc (JM rfl (JO (x:=sc.around) (h.sc hsc 2 _ rfl) ?_))))
      exact hag _ sc.around w (by omega) ⟨rfl,ha3,by omega,rfl,g,by omega,hL⟩
    have yes:sc.er.gives t=true→Rt (QC .i64) K (.int .i64 (k:Int)) w:=by
      intro hf
      rw[if_pos hf] at hL
      rw[← hL] at c
      exact Rt.mk (h:=QC .i64) (k:Int) c
    refine JM rfl (ldL (ldP hsc (JM rfl (DQ (x:=some sc.mp) (h.sc hsc 3 _ rfl) ?_))))
    refine AqE (h.map hsc) hok.m t ?_
    refine JM rfl (ldL (ldP hsc (JM rfl (JO (x:=sc.kind) (by simpa [JP] using h.sc hsc 0 _ rfl) ?_))))
    have hgv:sc.er.gives t=((sc.kind==2 || sc.kind==4) && match (ZJ sc.names t).map (·.n) with
      | some n=>n.bound && n.by_==0
      | none=>false):=by
      unfold Sc.gives
      rw[sc.er_get];rfl
    cases hg:ZJ sc.names t with
    | none=>
      rw[hg] at hgv
      exact ZH rfl (k0 (by rw[hgv];simp))
    | some n=>
      rw[hg] at hgv
      obtain⟨j,hj⟩:=BP hg
      have hcn:=h.nm hsc hj
      refine VF rfl ?_
      have body:(sc.kind==2 || sc.kind==4)=true→(nn (some (⟨n.bn,0,none⟩:Addr)) fun a22=>OR (a22.add 2) (fun(b23:Bool) w=>br (b23) (nn (some (⟨n.bn,0,none⟩:Addr)) fun a24=>JK (a24.add 4) (fun(i25:Int) w=>br (i25==(0:Int)) (Rt (QC .i64) K (.int .i64 (k:Int)) w) (YI again (some ⟨e.bw,0,none⟩) (k:Int) w)) w) (YI again (some ⟨e.bw,0,none⟩) (k:Int) w)) w):=by
        intro hkk
        refine JM rfl (HT (x:=n.n.bound) (hcn 2 _ rfl) (JE (fun hb1 => ?_) (fun hb1=>k0 (by rw[hgv];simp[hb1]))))
        refine JM rfl (JO (x:=n.n.by_) (hcn 4 _ rfl) (JE (fun hb2=>yes ?_) (fun hb2=>k0 ?_)))
        · rw[hgv,hkk];simp[hb1];simpa using hb2
        · rw[hgv];simp only[Option.map_some];rw[hb2];simp
      refine JE (fun h2=>body (by rw[h2];rfl)) (fun h2 => ?_)
      refine JE (fun h4=>body (by rw[h4];simp)) (fun h4=>k0 ?_)
      rw[hgv,h2,h4];rfl
  · have hi:i<0:=by simp at hb;omega
    rw[if_pos hi] at hL
    rw[← hL] at c
    exact Rt.mk (h:=QC .i64) (-1:Int) c
end
end Go.Proofs.YtjiagmjfnbljjaaGreatDoor
end
section
namespace Go.Proofs.YtjiagmjfnbljjaaGreatDoor
open Go Go.MapKept
set_option maxHeartbeats 4000000
set_option linter.unusedVariables false
set_option linter.unusedSimpArgs false
def Wp.nmOf(p:Wp)(s:Nat)(t:ByteArray):Nm:=match p.scs[s]? with
  | some c=>c.nm t
  | none=>nm0
def Adq(q:La)(p:Wp):Wp:=
  let p1:=p.fault 114 q.at_ ((p.nmOf q.s q.text).param || ((p.nmOf q.s q.text).occurs && decide ((p.nmOf q.s q.text).at_<q.at_)))
  if q.kind==14 then p1.fault 115 q.at_ (p.kindOf q.s != 2 || decide (VZ p q.s q.text<0)) else p1
theorem AmX{a:WA}{s:Nat}{c:ScA}{t:ByteArray}{n:NmA}(hs:a.scs[s]? = some c)(hg:ZJ c.names t=some n):a.er.nmOf s t=n.n:=by
  unfold Wp.nmOf
  rw[WA.er_at hs]
  show c.er.nm t=_
  unfold Sc.nm
  rw[c.er_get,hg];rfl
theorem AnH(p:Wp)(code at_:Int)(b:Bool)(t:ByteArray):∀ f i,homeL (p.fault code at_ b) t f i=homeL p t f i:=by
  have h:(p.fault code at_ b).scs=p.scs:=by unfold Wp.fault;split<;>rfl
  intro f
  induction f with
  | zero=>intro i;rfl
  | succ f ih=>
    intro i
    unfold homeL
    rw[h]
    split
    · rfl
    · split
      · rw[ih]
      · rfl
theorem EA(p:Wp)(code at_:Int)(b:Bool):(p.fault code at_ b).scs=p.scs:=by unfold Wp.fault;split<;>rfl
theorem AnI(p:Wp)(code at_:Int)(b:Bool)(s:Nat)(t:ByteArray):VZ (p.fault code at_ b) s t=VZ p s t:=by
  unfold VZ
  rw[EA]
  split
  · rw[AnH]
  · rfl
section
variable{e:We}{r:Fz}{w:World}{a:WA}{l:List En}
theorem Aus(h:WMr e r w a l)(ha:CX a.er){q:LaA}(hq:q∈a.lat){K:Unit→World→Prop}(c:∀ a' w',WMr e r w' a' l→a'.scs=a.scs∧a'.lat=a.lat∧a'.Lt=a.Lt→a'.er=Adq q.l a.er→K () w') :
    FH ⟨q.bw,0,none⟩ ⟨q.bk,0,none⟩ ⟨q.bx,0,none⟩ ⟨q.bn,0,none⟩ ⟨q.by_,0,none⟩ ⟨q.bp,0,none⟩ K w:=by
  refine SC _ _ _ _ _ _ _ _ ?_
  unfold FJ
  obtain⟨q1,⟨y,q2,hya,hyt⟩,⟨x,q3,hxk⟩,⟨pl,q4,hpl⟩,sc,nm,hsc,hg,q5,q6⟩:=h.2.la q hq
  obtain⟨j,hj⟩:=BP hg
  have hnm:=AmX hsc hg
  have hkind:a.er.kindOf q.l.s=sc.kind:=by unfold Wp.kindOf;rw[WA.er_at hsc];rfl
  unfold Adq at c
  rw[hnm,hkind] at c
  dsimp only at c
  have hsl:q.l.s<a.scs.length:=(List.getElem?_eq_some_iff.1 hsc).1
  -- behind the first rule
  have k0:∀ {a1:WA} {w:World} {b:Bool},WMr e r w a1 l→a1.scs=a.scs∧a1.lat=a.lat∧a1.Lt=a.Lt→a1.er=a.er.fault 114 q.l.at_ b→b=(nm.n.param || (nm.n.occurs && decide (nm.n.at_<q.l.at_)))→VS (Rt QK K) ⟨q.bw,0,none⟩ ⟨q.bk,0,none⟩ ⟨q.bn,0,none⟩ ⟨q.by_,0,none⟩ ⟨q.bp,0,none⟩ w:=by
    intro a1 w b h ⟨hscs,hlat,hLt⟩ her hb
    unfold VS
    rw[← hb,← her] at c
    have hsc1:a1.scs[q.l.s]? = some sc:=by rw[hscs];exact hsc
    refine JO (x:=x.Kind) (by simpa [JP] using h.fzCells q3 0 _ rfl) ?_
    rw[hxk]
    refine JE (fun h14 => ?_) (fun h14 => ?_)
    · rw[if_pos h14] at c
      refine h.dw fun w h => ?_
      refine⟨fun w'=>JD w' ⟨q.bw,0,none⟩ [.pointer (some ⟨e.bw,0,none⟩)]∧JD w' ⟨e.bw,0,none⟩ [a1.L.v,UC e.bl,a1.Lt.v]∧JD w' ⟨q.bk,0,none⟩ y.cells.toList∧JD w' ⟨q.by_,0,none⟩ [sc.ptr]∧JD w' ⟨sc.bs,0,none⟩ sc.cells.toList∧JD w' ⟨q.bp,0,none⟩ pl.cells.toList,⟨h.fzCells q1,h.top,h.fzCells q2,h.fzCells q6,h.sc hsc1,h.fzCells q4⟩,?_⟩
      refine UD (x:=some ⟨e.bw,0,none⟩) (fun w' h=>by simpa [JP] using h.1 0 _ rfl) (JM rfl ?_)
      refine BH (x:=⟨18,#[.pointer (some ⟨e.bl,0,none⟩)]⟩) (fun w' h=>h.2.1 1 _ rfl) (JV (x:=y.At) (fun w' h=>h.2.2.1 1 _ rfl) ?_)
      refine VN (x:=some ⟨sc.bs,0,none⟩) (fun w' h=>by simpa [JP,ScA.ptr] using h.2.2.2.1 0 _ rfl) (JM rfl ?_)
      refine JV (x:=sc.kind) (fun w' h=>by simpa [JP] using h.2.2.2.2.1 0 _ rfl) ?_
      rw[hya]
      refine JE (fun hk=>⟨⟨h.fzCells q1,h.top,h.fzCells q2,h.fzCells q6,h.sc hsc1,h.fzCells q4⟩,?_⟩) (fun hk => ?_)
      · refine WF h _ _ _ fun a' w' h h1 h3=>Rt.mk (h:=QK) () (c a' w' h ⟨by rw[h1.1,hscs],by rw[h1.2.1,hlat],by rw[h1.2.2,hLt]⟩ ?_)
        rw[h3,hk,Bool.true_or]
      · refine UD (x:=some ⟨e.bw,0,none⟩) (fun w' h=>by simpa [JP] using h.1 0 _ rfl) ?_
        refine JV (x:=pl.s) (fun w' h=>by simpa [JP] using h.2.2.2.2.2 0 _ rfl) (YO (x:=y.Text) (fun w' h=>h.2.2.1 2 _ rfl) ?_)
        rw[hpl,hyt]
        have ha1:CX a1.er:=by
          intro i s hs
          rw[her,EA] at hs
          exact ha i s hs
        refine AmQ h ha1 (by rw[hscs];exact hsl) q.l.text ⟨⟨h.fzCells q1,h.top,h.fzCells q2,h.fzCells q6,h.sc hsc1,h.fzCells q4⟩,?_⟩
        refine WF h _ _ _ fun a' w' h h1 h3=>Rt.mk (h:=QK) () (c a' w' h ⟨by rw[h1.1,hscs],by rw[h1.2.1,hlat],by rw[h1.2.2,hLt]⟩ ?_)
        rw[h3,hk,Bool.false_or]
        rw[show VZ a1.er q.l.s q.l.text=VZ a.er q.l.s q.l.text by rw[her,AnI]]
    · rw[if_neg (ne_true_of_eq_false h14)] at c
      exact Rt.mk (h:=QK) () (c a1 w h ⟨hscs,hlat,hLt⟩ rfl)
  refine h.dw fun w h => ?_
  refine⟨fun w'=>JD w' ⟨q.bw,0,none⟩ [.pointer (some ⟨e.bw,0,none⟩)]∧JD w' ⟨e.bw,0,none⟩ [a.L.v,UC e.bl,a.Lt.v]∧JD w' ⟨q.bk,0,none⟩ y.cells.toList∧JD w' ⟨q.bx,0,none⟩ [nm.ptr]∧JD w' ⟨nm.bn,0,none⟩ nm.cells.toList,⟨h.fzCells q1,h.top,h.fzCells q2,h.fzCells q5,h.nm hsc hj⟩,?_⟩
  refine UD (x:=some ⟨e.bw,0,none⟩) (fun w' h=>by simpa [JP] using h.1 0 _ rfl) (JM rfl ?_)
  refine BH (x:=⟨18,#[.pointer (some ⟨e.bl,0,none⟩)]⟩) (fun w' h=>h.2.1 1 _ rfl) (JV (x:=y.At) (fun w' h=>h.2.2.1 1 _ rfl) ?_)
  rw[hya]
  have ldN:∀ {K:Option Addr→Prop},K (some ⟨nm.bn,0,none⟩)→AC (fun w'=>JD w' ⟨q.bw,0,none⟩ [.pointer (some ⟨e.bw,0,none⟩)]∧JD w' ⟨e.bw,0,none⟩ [a.L.v,UC e.bl,a.Lt.v]∧JD w' ⟨q.bk,0,none⟩ y.cells.toList∧JD w' ⟨q.bx,0,none⟩ [nm.ptr]∧JD w' ⟨nm.bn,0,none⟩ nm.cells.toList) ⟨q.bx,0,none⟩ K:=fun k=>KG (x:=some ⟨nm.bn,0,none⟩) (fun w' h=>by simpa [JP,NmA.ptr] using h.2.2.2.1 0 _ rfl) k
  refine ldN (JM rfl (AaC (x:=nm.n.param) (fun w' h=>h.2.2.2.2 3 _ rfl) ?_))
  refine JE (fun hb => ?_) (fun hb => ?_)
  · exact WF h _ _ _ fun a' w' h h1 h3=>k0 h h1 h3 (by rw[hb];rfl)
  refine ldN (JM rfl (AaC (x:=nm.n.occurs) (fun w' h=>by simpa [JP] using h.2.2.2.2 0 _ rfl) ?_))
  refine JE (fun hb2 => ?_) (fun hb2 => ?_)
  · refine ldN (JM rfl (JV (x:=nm.n.at_) (fun w' h=>h.2.2.2.2 1 _ rfl) (JV (x:=y.At) (fun w' h=>h.2.2.1 1 _ rfl) ?_)))
    rw[hya]
    exact WF h _ _ _ fun a' w' h h1 h3=>k0 h h1 h3 (by rw[hb,hb2];rfl)
  · exact WF h _ _ _ fun a' w' h h1 h3=>k0 h h1 h3 (by rw[hb,hb2];rfl)
end
end Go.Proofs.YtjiagmjfnbljjaaGreatDoor
end
section
namespace Go.Proofs.YtjiagmjfnbljjaaGreatDoor
open Go
set_option maxHeartbeats 4000000
set_option linter.unusedVariables false
structure Aq(s:Nat)(p:Wp):Prop where
  ar:CX p
  lt:s<p.scs.length
section
variable{s:Nat}{p:Wp}
theorem Aq.mod(h:Aq s p)(i:Nat)(f:Sc→Sc)(hf:∀ c,(f c).around=c.around):Aq s (p.mod i f):=by
  refine⟨fun j c hc => ?_,by unfold Wp.mod;simpa using h.lt⟩
  have hc:(p.scs.modify i f)[j]? = some c:=hc
  rw[List.getElem?_modify] at hc
  cases hp:p.scs[j]? with
  | none=>rw[hp] at hc;simp at hc
  | some x=>
    rw[hp] at hc
    simp only[Option.map_eq_map,Option.map_some,Option.some.injEq] at hc
    have hx:=h.ar j x hp
    split at hc
    · rw[← hc,hf];exact hx
    · rw[← hc];exact hx
theorem KN(t:ByteArray)(c:Sc):(c.of t).around=c.around:=by unfold Sc.of;split<;>rfl
theorem Aq.occ(h:Aq s p)(i:Nat)(t:ByteArray)(a:Int)(b:Bool):Aq s (p.occ i t a b):=h.mod i _ fun c=>KN t c
theorem Aq.fault(h:Aq s p)(code a:Int)(b:Bool):Aq s (p.fault code a b):=⟨by intro j c hc;rw[EA] at hc;exact h.ar j c hc,by rw[EA];exact h.lt⟩
theorem Aq.many(h:Aq s p)(n:Nd):Aq s (p.many n):=h.fault _ _ _
theorem Aq.opn(h:Aq s p)(k a:Int):Aq s (p.open_ k a s):=by
  refine⟨fun j c hc => ?_,by show s<(p.scs ++ [_]).length;have:=h.lt;simp;omega⟩
  have hc:(p.scs ++ [⟨k,a,s,[],[],0⟩])[j]? = some c:=hc
  by_cases hj:j<p.scs.length
  · rw[List.getElem?_append_left hj] at hc;exact h.ar j c hc
  · rw[List.getElem?_append_right (by omega)] at hc
    have hlt:=(List.getElem?_eq_some_iff.1 hc).1
    have hz:j - p.scs.length=0:=by simp at hlt;omega
    rw[hz] at hc
    simp only[List.getElem?_cons_zero,Option.some.injEq] at hc
    subst hc
    have:=h.lt
    exact⟨by show(-1:Int)≤(s:Int);omega,by show(s:Int)<_;omega⟩
theorem Aq.inn(h:Aq s p)(k a:Int):Aq p.scs.length (p.open_ k a s):=⟨(h.opn k a).ar,by show _<(p.scs ++ [_]).length;simp⟩
theorem Aq.twice:∀ (l:List Nd) (pre:List ByteArray) (p:Wp),Aq s p→Aq s (AD pre l p)
  | [],_,p,h=>h
  | n :: l,pre,p,h=>by unfold AD;exact Aq.twice l _ _ (h.fault _ _ _)
theorem Aq.decl(h:Aq s p)(kind:Int)(i:Nat)(k:Nd):Aq s (PK kind i k p):=by
  unfold PK
  have:=((h.mod i (·.of k.text) (KN _)).fault 114 k.at_ ((p.mod i (·.of k.text)).byOf i k.text != 0 && (p.mod i (·.of k.text)).byOf i k.text != kind)).mod i (fun c=>c.upd k.text fun n=>{ n with by_:=kind }) fun _=>rfl
  exact⟨this.ar,this.lt⟩
theorem Aq.par(h:Aq s p)(i:Nat)(k:Nd):Aq s (NN i k p):=(h.occ _ _ _ _).mod i _ fun c=>KN k.text c
theorem Aq.fold{f:Wp→Nd→Wp}:∀ (l:List Nd) (p:Wp),(∀ k p,Aq s p→Aq s (f p k))→Aq s p→Aq s (l.foldl f p)
  | [],p,_,h=>h
  | k :: r,p,hf,h=>by rw[List.foldl_cons];exact Aq.fold r _ hf (hf k p h)
end
theorem AoU:∀ (f:Nat) (tgt:Bool) (n:Nd) (s:Nat) (lp ex:Bool) (p:Wp),Aq s p→Aq s (ndS f tgt n s lp ex p)
  | 0,_,_,_,_,_,p,h=>h
  | f+1,tgt,n,s,lp,ex,p,h=>by
    have ih:=AoU f
    have all:∀ (tgt:Bool) (l:List Nd) (s:Nat) (lp ex:Bool) (p:Wp),Aq s p→Aq s (l.foldl (fun p k=>ndS f tgt k s lp ex p) p):=fun tgt l s lp ex p h=>Aq.fold l p (fun k p h=>ih tgt k s lp ex p h) h
    -- a walk in another scope keeps this one
    have keep:∀ {s s':Nat} {p q:Wp} {d:Nat},Aq s p→Aq s' q→p.sub q d→Aq s q:=fun h h' hs=>⟨h'.ar,Nat.lt_of_lt_of_le h.lt hs.ge⟩
    rw[GP]
    unfold AbE
    simp only
    have ite:∀ {c:Prop} [Decidable c] {x y:Wp},Aq s x→Aq s y→Aq s (if c then x else y):=fun h1 h2=>by split<;>assumption
    refine ite ?_ (ite ?_ (ite ?_ (ite ?_ (ite ?_ (ite ?_ (ite ?_ (ite ?_ (ite ?_ (ite ?_ (ite ?_ (ite ?_ (ite ?_ (ite ?_ (ite ?_ (ite ?_ ?_)))))))))))))))
    · exact h.occ _ _ _ _
    · exact all _ _ _ _ _ _ (h.many n)
    · exact all _ _ _ _ _ _ (ih _ _ _ _ _ _ h)
    · exact h.fault _ _ _
    · exact all _ _ _ _ _ _ (h.fault _ _ _)
    · exact all _ _ _ _ _ _ (h.fault _ _ _)
    · exact Aq.fold _ _ (fun k p h=>h.decl _ _ _) h
    · exact ih _ _ _ _ _ _ (ih _ _ _ _ _ _ (ih _ _ _ _ _ _ h))
    · exact ih _ _ _ _ _ _ (ih _ _ _ _ _ _ h)
    · exact all _ _ _ _ _ _ (h.mod _ _ fun _=>rfl)
    · exact ih _ _ _ _ _ _ (ih _ _ _ _ _ _ (ite h (h.occ _ _ _ _)))
    · have h1:Aq s (AD [] (n.kids.take (n.kids.length - 1)) ((p.occ s n.text n.at_ true).fault 109 n.at_ (decide (((n.kids.length - 1:Nat):Int) > 1000)))):=Aq.twice _ _ _ ((h.occ _ _ _ _).fault _ _ _)
      generalize AD [] (n.kids.take (n.kids.length - 1)) ((p.occ s n.text n.at_ true).fault 109 n.at_ (decide (((n.kids.length - 1:Nat):Int) > 1000)))=H at h1
      have h2:Aq s ((n.kids.take (n.kids.length - 1)).foldl (fun w k=>k.kids.foldl (fun w k=>ndS f false k s lp ex w) (NN H.scs.length k w)) (H.open_ 2 n.at_ s)):=Aq.fold _ _ (fun k p h=>all _ _ _ _ _ _ (h.par _ _)) (h1.opn _ _)
      have h3:H.scs.length<((n.kids.take (n.kids.length - 1)).foldl (fun w k=>k.kids.foldl (fun w k=>ndS f false k s lp ex w) (NN H.scs.length k w)) (H.open_ 2 n.at_ s)).scs.length:=by
        have hs:=Wp.sub_fold (g:=fun k=>1+Nd.wts k.kids) (n.kids.take (n.kids.length - 1)) (f:=fun w k=>k.kids.foldl (fun w k=>ndS f false k s lp ex w) (NN H.scs.length k w)) (H.open_ 2 n.at_ s) fun k _ p=>Wp.sub_trans (Wp.sub_par _ _ _) (AeN false s lp ex k.kids _)
        exact Nat.lt_of_lt_of_le (h1.inn 2 n.at_).lt hs.ge
      have h4:=ih false (n.kid (n.kids.length - 1)) H.scs.length false false _ ⟨h2.ar,h3⟩
      exact keep h2 h4 (MW _ _ _ _ _ _ _)
    · have h1:=h.occ s n.text n.at_ true
      have h2:=ih false (n.kid 0) s lp ex _ (h1.opn 3 n.at_)
      have h3:=keep (h1.inn 3 n.at_) h2 (MW _ _ _ _ _ _ _)
      exact keep h2 (ih false (n.kid 1) _ false false _ h3) (MW _ _ _ _ _ _ _)
    · have h0:=h.opn 4 n.at_
      have hi:=h.inn 4 n.at_
      have h1:=ih false (n.kid 0) _ false false _ hi
      have h2:=ih true (n.kid 1) _ false false _ h1
      have k1:=keep h0 h1 (MW _ _ _ _ _ _ _)
      have k2:=keep k1 h2 (MW _ _ _ _ _ _ _)
      have h3:=ih false (n.kid 2) s lp ex _ k2
      have i3:=keep h2 h3 (MW _ _ _ _ _ _ _)
      exact keep h3 (all false (n.kids.drop 3) _ false false _ i3) (AeN false _ false false (n.kids.drop 3) _)
    · exact all _ _ _ _ _ _ (Aq.twice _ _ _ (h.many n))
    · exact all _ _ _ _ _ _ (h.many n)
    · exact all _ _ _ _ _ _ h
end Go.Proofs.YtjiagmjfnbljjaaGreatDoor
end
section
namespace Go.Proofs.YtjiagmjfnbljjaaGreatDoor
open Go
def ltT(a b:ByteArray):Bool:=decide (a.data.toList<b.data.toList)
def AoN(t:ByteArray):List ByteArray→List ByteArray
  | []=>[t]
  | x :: l=>if ltT t x then t :: x :: l else x :: AoN t l
def Ae9:List ByteArray→List ByteArray
  | []=>[]
  | t :: l=>AoN t (Ae9 l)
def AoO(t:Int):List Int→List Int
  | []=>[t]
  | x :: l=>if t<x then t :: x :: l else x :: AoO t l
def AlE:List Int→List Int
  | []=>[]
  | t :: l=>AoO t (AlE l)
theorem Ah1(t:ByteArray):∀ l,(AoN t l).Perm (t :: l)
  | []=>.refl _
  | x :: l=>by
    unfold AoN
    split
    · exact .refl _
    · exact((Ah1 t l).cons x).trans (.swap _ _ _)
theorem EC:∀ l,(Ae9 l).Perm l
  | []=>.refl _
  | t :: l=>(Ah1 t _).trans ((EC l).cons t)
theorem Ah2(t:Int):∀ l,(AoO t l).Perm (t :: l)
  | []=>.refl _
  | x :: l=>by
    unfold AoO
    split
    · exact .refl _
    · exact((Ah2 t l).cons x).trans (.swap _ _ _)
theorem KO:∀ l,(AlE l).Perm l
  | []=>.refl _
  | t :: l=>(Ah2 t _).trans ((KO l).cons t)
abbrev leT(a b:ByteArray):Prop:=a.data.toList≤b.data.toList
theorem AiL(t:ByteArray):∀ l,l.Pairwise leT→(AoN t l).Pairwise leT
  | [],_=>by unfold AoN;exact List.pairwise_singleton _ _
  | x :: l,h=>by
    have hc:=List.pairwise_cons.1 h
    unfold AoN
    split
    · rename_i hl
      have hl:t.data.toList<x.data.toList:=by simpa [ltT] using hl
      refine .cons (fun y hy => ?_) h
      have hxy:leT x y∨x=y:=by
        rcases List.mem_cons.1 hy with rfl | hy
        · exact .inr rfl
        · exact .inl (hc.1 y hy)
      rcases hxy with hxy | rfl
      · exact Std.le_trans (List.le_of_lt hl) hxy
      · exact List.le_of_lt hl
    · rename_i hl
      have hl:¬ t.data.toList<x.data.toList:=by simpa [ltT] using hl
      have hl:x.data.toList≤t.data.toList:=hl
      refine .cons (fun y hy => ?_) (AiL t l hc.2)
      rcases List.mem_cons.1 ((Ah1 t l).mem_iff.1 hy) with rfl | hy
      · exact hl
      · exact hc.1 y hy
theorem AeA:∀ l,(Ae9 l).Pairwise leT
  | []=>.nil
  | t :: l=>AiL t _ (AeA l)
theorem AiM(t:Int):∀ l:List Int,l.Pairwise (· ≤ ·)→(AoO t l).Pairwise (· ≤ ·)
  | [],_=>by unfold AoO;exact List.pairwise_singleton _ _
  | x :: l,h=>by
    have hc:=List.pairwise_cons.1 h
    unfold AoO
    split
    · rename_i hl
      refine .cons (fun y hy => ?_) h
      rcases List.mem_cons.1 hy with rfl | hy
      · omega
      · have:=hc.1 y hy;omega
    · rename_i hl
      refine .cons (fun y hy => ?_) (AiM t l hc.2)
      rcases List.mem_cons.1 ((Ah2 t l).mem_iff.1 hy) with rfl | hy
      · omega
      · exact hc.1 y hy
theorem AeB:∀ l:List Int,(AlE l).Pairwise (· ≤ ·)
  | []=>.nil
  | t :: l=>AiM t _ (AeB l)
theorem Akd{a b:ByteArray}(h:a.data.toList=b.data.toList):a=b:=by
  cases a;cases b
  simp only at h
  congr
  exact Array.ext' h
theorem Ao8{ss:List (List UInt8)}{l:List ByteArray}(h:ss.Perm (l.map fun t=>t.data.toList)):ss.mergeSort (fun x y=>decide (x≤y))=(Ae9 l).map fun t=>t.data.toList:=by
  have tr:∀ a b c:List UInt8,decide (a≤b)=true→decide (b≤c)=true→decide (a≤c)=true:=fun a b c h1 h2=>by
    simp only[decide_eq_true_eq] at *;exact Std.le_trans h1 h2
  have to:∀ a b:List UInt8,(decide (a≤b) || decide (b≤a))=true:=fun a b=>by
    simp only[Bool.or_eq_true,decide_eq_true_eq];exact Std.le_total
  refine List.Perm.eq_of_pairwise (le:=fun a b=>decide (a≤b)=true) (fun a b _ _ h1 h2 => ?_) (List.pairwise_mergeSort tr to ss) ?_ ((List.mergeSort_perm ss _).trans (h.trans ((EC l).map _).symm))
  · simp only[decide_eq_true_eq] at h1 h2
    exact Std.le_antisymm h1 h2
  · rw[List.pairwise_map]
    exact(AeA l).imp fun h=>by simpa using h
theorem Ao9{ss l:List Int}(h:ss.Perm l):ss.mergeSort (fun x y=>decide (x≤y))=AlE l:=by
  have tr:∀ a b c:Int,decide (a≤b)=true→decide (b≤c)=true→decide (a≤c)=true:=fun a b c h1 h2=>by
    simp only[decide_eq_true_eq] at *;omega
  have to:∀ a b:Int,(decide (a≤b) || decide (b≤a))=true:=fun a b=>by
    simp only[Bool.or_eq_true,decide_eq_true_eq];omega
  refine List.Perm.eq_of_pairwise (le:=fun a b=>decide (a≤b)=true) (fun a b _ _ h1 h2 => ?_) (List.pairwise_mergeSort tr to ss) ?_ ((List.mergeSort_perm ss _).trans (h.trans (KO l).symm))
  · simp only[decide_eq_true_eq] at h1 h2;omega
  · exact(AeB l).imp fun h=>by simpa using h
def AbN(p:Wp)(i:Nat)(t:ByteArray):Int:=
  if p.kindOf i==1 || (p.nmOf i t).by_==13 then 4 else
  if (p.nmOf i t).by_==14 then 3 else
  if (p.nmOf i t).bound && p.kindOf i==3 then 5 else
  if (p.nmOf i t).bound then 1 else
  if decide (VZ p i t≥0) then 3 else 4
def Nm.put(k:Int)(n:Nm):Nm:={ n with uses:=CU n.uses k 0 }
def Nm.del(k:Int)(n:Nm):Nm:={ n with uses:=Adr n.uses k }
def XV(p:Wp)(i:Nat):List ByteArray:=match p.scs[i]? with
  | some s=>Ae9 (s.names.map (·.1))
  | none=>[]
def ZM(p:Wp)(i:Nat):Int:=match p.scs[i]? with
  | some s=>s.around
  | none=>-1
def AlJ(i:Nat)(p:Wp)(t:ByteArray):Wp:=p.mod i fun s=>s.upd t (Nm.put (AbN p i t))
def BV(p:Wp):Wp:=(List.range p.scs.length).foldl (fun p i=>(XV p i).foldl (AlJ i) p) p
def ME(h:Int)(t:ByteArray):Nat→Int→Wp→Wp
  | 0,_,p=>p
  | f+1,k,p=>if k > h then ME h t f (ZM p k.toNat) (p.mod k.toNat fun s=>(s.of t).upd t (Nm.put 3)) else p
def EX(i:Nat)(p:Wp)(t:ByteArray):Wp:=
  if (ZJ (p.nmOf i t).uses 3).isNone then p else
  (ME (VZ p i t) t (p.scs.length+1) (ZM p i) p).mod (VZ p i t).toNat fun s=>s.upd t fun n=>(n.del 1).put 2
def BW(p:Wp):Wp:=(List.range p.scs.length).reverse.foldl (fun p i=>(XV p i).foldl (EX i) p) p
abbrev Us:=XK
structure So where
  kind:Int
  at_:Int
  around:Int
  locals:Int
  cells:Int
  frees:Int
  uses:List Us
def XY(s:Sc):List (ByteArray×Int):=(Ae9 (s.names.map (·.1))).flatMap fun t=>(AlE ((s.nm t).uses.map (·.1))).map fun k=>(t,k)
def UI(k:Int)(l:List (ByteArray×Int)):Nat:=(l.filter fun q=>q.2==k).length
def PO(t:ByteArray):List ByteArray→Nat→Option Nat
  | [],_=>none
  | x :: l,i=>if x=t then some i else PO t l (i+1)
def XX(ps:List ByteArray):Nat→Nat→Nat→List (ByteArray×Int)→List Us×Nat
  | _,_,o,[]=>([],o)
  | c,f,o,q :: r=>
    if q.2==2 then((⟨q.1,q.2,c⟩:Us) :: (XX ps (c+1) f o r).1,(XX ps (c+1) f o r).2) else
    if q.2==3 then((⟨q.1,q.2,f⟩:Us) :: (XX ps c (f+1) o r).1,(XX ps c (f+1) o r).2) else
    if q.2==1 then match PO q.1 ps 0 with
      | some j=>((⟨q.1,q.2,j⟩:Us) :: (XX ps c f o r).1,(XX ps c f o r).2)
      | none=>((⟨q.1,q.2,o⟩:Us) :: (XX ps c f (o+1) r).1,(XX ps c f (o+1) r).2)
    else((⟨q.1,q.2,0⟩:Us) :: (XX ps c f o r).1,(XX ps c f o r).2)
def EN(s:Sc):So:=
  let l:=XY s
  let x:=XX s.params 0 (UI 2 l) (if s.kind==4 then 1 else s.params.length) l
  ⟨s.kind,s.at_,s.around,(x.2:Int)+s.tries,UI 2 l,UI 3 l,x.1⟩
def wp0:Wp:=⟨[],[],0,0⟩
def NF(n:Nd):Wp:=
  let p:=ndS (n.wt+1) false (n.kid 0) 0 false false (wp0.open_ 1 n.at_ (-1))
  p.lat.foldl (fun p q=>Adq q p) p
def AW(n:Nd):List So×Int×Int:=
  if PX MD n then
    if (NF n).code != 0 then([],(NF n).code,(NF n).at_) else((BW (BV (NF n))).scs.map EN,0,0)
  else([],106,0)
end Go.Proofs.YtjiagmjfnbljjaaGreatDoor
end
section
namespace Go.Proofs.YtjiagmjfnbljjaaGreatDoor
open Go Go.MapKept
set_option maxHeartbeats 4000000
set_option linter.unusedVariables false
section
variable{e:We}{r:Fz}{w:World}{a:WA}{l:List En}
theorem AsX(h:WMr e r w a l)(ha:CX a.er){q:LaA}(hq:q∈a.lat){K:Unit→World→Prop}(c:∀ a' w',WMr e r w' a' l→a'.scs=a.scs∧a'.lat=a.lat∧a'.Lt=a.Lt→a'.er=Adq q.l a.er→K () w'):clv q.v #[] QK K w:=
  ⟨87,#[.pointer (some ⟨q.bw,0,none⟩),.pointer (some ⟨q.bk,0,none⟩),.pointer (some ⟨q.bx,0,none⟩),.pointer (some ⟨q.bn,0,none⟩),.pointer (some ⟨q.by_,0,none⟩),.pointer (some ⟨q.bp,0,none⟩)],rfl,rfl,Aus h ha hq c⟩
theorem AsY(h:WMr e r w a l)(ha:CX a.er)(hlen:a.lat.length≤2147483648){fin:World→Prop}
    (c:∀ a' w',WMr e r w' a' l→a'.scs=a.scs→a'.er=a.er.lat.foldl (fun p q=>Adq q p) a.er→fin w') :
    Lp (α:=Int) (fun x16=>[.int .i64 x16]) [.int .i64 0] (fun x16 again17 w=>
      br (decide (x16<(a.Lt.n:Int)))
        (nn a.Lt.a fun a18=>
        0≤x16∧x16<((a.Lt.n:Nat):Int)∧
        ArR (a18.add (x16.toNat * 1)) (fun(x19:Fv) w=>
          clv (x19.v) #[] (QK) (fun(x20:Unit) w=>
            again17 [.int .i64 (IntKind.i64.wrap (x16+1))] w) w) w)
        (fin w)) w:=by
  have hn:=h.rowLt.2
  have hel:a.er.lat=a.lat.map (·.l):=rfl
  refine YE (fun m (i:Int) w'=>∃ (k:Nat) (a':WA),i=k∧m+k=a.lat.length∧WMr e r w' a' l∧(a'.scs=a.scs∧a'.lat=a.lat∧a'.Lt=a.Lt)∧(a.er.lat.drop k).foldl (fun p q=>Adq q p) a'.er=a.er.lat.foldl (fun p q=>Adq q p) a.er) a.lat.length (0:Int) rfl ⟨0,a,rfl,rfl,h,⟨rfl,rfl,rfl⟩,rfl⟩ ?_
  clear h
  rintro m i w1 ⟨k,a1,rfl,hm,h,⟨h1,h2,h3⟩,hfold⟩ again hag
  refine JE (fun hlt => ?_) (fun hge => ?_)
  · have hlt:k<a.lat.length:=by simp at hlt;omega
    have hrow:=h.rowLt.1
    rw[h3,h2] at hrow
    have hk:a.lat[k]? = some a.lat[k]:=List.getElem?_eq_getElem hlt
    cases hLa:a.Lt.a with
    | none=>have:=(hrow.1 hLa).1;omega
    | some pL=>
      refine JM rfl ⟨by omega,by omega,?_⟩
      refine ArS (x:=⟨87,#[.pointer (some ⟨a.lat[k].bw,0,none⟩),.pointer (some ⟨a.lat[k].bk,0,none⟩),.pointer (some ⟨a.lat[k].bx,0,none⟩),.pointer (some ⟨a.lat[k].bn,0,none⟩),.pointer (some ⟨a.lat[k].by_,0,none⟩),.pointer (some ⟨a.lat[k].bp,0,none⟩)]⟩) ?_ ?_
      · have:=hrow.2 pL hLa k a.lat[k].v (by rw[List.getElem?_map,hk];rfl)
        have h2:w1.cell? (pL.add ((k:Int).toNat * 1))=some a.lat[k].v:=by simpa using this
        exact h2
      have hA:CX a1.er:=by
        intro i s hs
        have:a1.er.scs=a.er.scs:=by show a1.scs.map _=a.scs.map _;rw[h1]
        rw[this] at hs
        exact ha i s hs
      refine AsX (q:=a.lat[k]) h hA (by rw[h2];exact List.getElem_mem hlt) fun a2 w2 hw2 hs2 her2 => ?_
      rw[ZS (n:=a.lat.length) (by omega) (by omega) (by omega)]
      refine hag (m - 1) ((k:Int)+1) w2 (by omega) ⟨k+1,a2,by omega,by omega,hw2,⟨by rw[hs2.1,h1],by rw[hs2.2.1,h2],by rw[hs2.2.2,h3]⟩,?_⟩
      rw[← hfold,her2]
      have hd:a.er.lat.drop k=a.lat[k].l :: a.er.lat.drop (k+1):=by
        have hl:k<a.er.lat.length:=by rw[hel,List.length_map];exact hlt
        rw[List.drop_eq_getElem_cons hl]
        simp[hel]
      rw[hd];rfl
  · have hge:k=a.lat.length:=by simp at hge;omega
    rw[hge,hel,List.drop_of_length_le (by rw[List.length_map];exact Nat.le_refl _)] at hfold
    exact c a1 w1 h h1 (by rw[hel];exact hfold)
end
end Go.Proofs.YtjiagmjfnbljjaaGreatDoor
end
section
namespace Go.Proofs.YtjiagmjfnbljjaaGreatDoor
open Go
set_option maxHeartbeats 4000000
set_option linter.unusedVariables false
mutual
def Nd.All(X:Nd→Prop):Nd→Prop
  | .mk k a t g m ks=>X (.mk k a t g m ks)∧Nd.Alls X ks
def Nd.Alls(X:Nd→Prop):List Nd→Prop
  | []=>True
  | k :: r=>Nd.All X k∧Nd.Alls X r
end
theorem Nd.All.self{X:Nd→Prop}{n:Nd}(h:n.All X):X n:=by cases n;unfold Nd.All at h;exact h.1
theorem Nd.Alls_mem{X:Nd→Prop}:∀ {l:List Nd},Nd.Alls X l↔∀ k∈l,k.All X
  | []=>by unfold Nd.Alls;simp
  | k :: r=>by unfold Nd.Alls;rw[Nd.Alls_mem];simp
theorem Nd.All.kids{X:Nd→Prop}{n:Nd}(h:n.All X):∀ k∈n.kids,k.All X:=by
  cases n;unfold Nd.All at h;exact Nd.Alls_mem.1 h.2
theorem Nd.All_iff{X:Nd→Prop}{n:Nd}:n.All X↔X n∧∀ k∈n.kids,k.All X:=by
  refine⟨fun h=>⟨h.self,h.kids⟩,fun⟨h1,h2⟩ => ?_⟩
  cases n
  unfold Nd.All
  exact⟨h1,Nd.Alls_mem.2 h2⟩
structure Inv(b:Bool)(X:Nd→Prop)(I:Wp→Prop):Prop where
  occ:∀ p i n b,X n→i<p.scs.length→I p→I (p.occ i n.text n.at_ b)
  fault:∀ p c n b,X n→I p→I (p.fault c n.at_ b)
  opn:∀ p k n (s:Nat),X n→(k=2∨k=3∨k=4)→s<p.scs.length→I p→I (p.open_ k n.at_ s)
  decl:∀ p kind i k,X k→(kind=13∨kind=14)→i<p.scs.length→I p→I (PK kind i k p)
  par:∀ p i k,X k→(b=true→p.kindOf i=2)→i<p.scs.length→I p→I (NN i k p)
  tri:∀ p i,i<p.scs.length→I p→I (p.mod i fun c=>{ c with tries:=c.tries+1 })
theorem Ael(p:Wp)(i j:Nat){f:Sc→Sc}(hf:∀ c,(f c).kind=c.kind):(p.mod i f).kindOf j=p.kindOf j:=by
  unfold Wp.kindOf
  show(match (p.scs.modify i f)[j]? with | some s=>s.kind | none=>0)=_
  rw[List.getElem?_modify]
  cases p.scs[j]? with
  | none=>rfl
  | some c=>
    by_cases h:i=j
    · subst h;simp[hf]
    · simp[h]
theorem SV(t:ByteArray)(c:Sc):(c.of t).kind=c.kind:=by unfold Sc.of;split<;>rfl
theorem Amk(i j:Nat)(k:Nd)(p:Wp):(NN i k p).kindOf j=p.kindOf j:=by
  unfold NN Wp.occ
  rw[Ael _ _ _ fun c => ?_,Ael _ _ _ fun c => ?_]
  · exact SV k.text c
  · exact SV k.text c
def KSt:Prop:=∀ (f:Nat) (tgt:Bool) (n:Nd) (s:Nat) (lp ex:Bool) (p:Wp) (j:Nat),s<p.scs.length→j<p.scs.length→(ndS f tgt n s lp ex p).kindOf j=p.kindOf j
theorem Al3(hK:KSt)(f:Nat)(tgt:Bool):∀ (l:List Nd) (s:Nat) (lp ex:Bool) (j:Nat) (p:Wp),s<p.scs.length→j<p.scs.length→(l.foldl (fun p k=>ndS f tgt k s lp ex p) p).kindOf j=p.kindOf j
  | [],s,lp,ex,j,p,_,_=>rfl
  | k :: r,s,lp,ex,j,p,hs,hj=>by
    have hg:=(MW f tgt k s lp ex p).ge
    rw[List.foldl_cons,Al3 hK f tgt r s lp ex j _ (Nat.lt_of_lt_of_le hs hg) (Nat.lt_of_lt_of_le hj hg),hK f tgt k s lp ex p j hs hj]
section
variable{b:Bool}{X:Nd→Prop}{I:Wp→Prop}(H:Inv b X I)(hK:b=true→KSt)
include H
theorem Inv.twice:∀ (l:List Nd) (pre:List ByteArray) (p:Wp),(∀ k∈l,X k)→I p→I (AD pre l p)
  | [],_,p,_,h=>h
  | n :: l,pre,p,hx,h=>by
    unfold AD
    exact Inv.twice l _ _ (fun k hk=>hx k (by simp[hk])) (H.fault _ _ _ _ (hx n (by simp)) h)
def IAt(I:Wp→Prop)(s:Nat)(p:Wp):Prop:=I p∧s<p.scs.length
theorem IAt.fold{s:Nat}{f:Wp→Nd→Wp}:∀ (l:List Nd) (p:Wp),(∀ k∈l,∀ p,IAt I s p→IAt I s (f p k))→IAt I s p→IAt I s (l.foldl f p)
  | [],p,_,h=>h
  | k :: r,p,hf,h=>by rw[List.foldl_cons];exact IAt.fold r _ (fun k hk=>hf k (by simp[hk])) (hf k (by simp) p h)
include hK in
theorem Ajw:∀ (f:Nat) (tgt:Bool) (n:Nd) (s:Nat) (lp ex:Bool) (p:Wp),n.All X→IAt I s p→IAt I s (ndS f tgt n s lp ex p)
  | 0,_,_,_,_,_,p,_,h=>h
  | f+1,tgt,n,s,lp,ex,p,hn,h=>by
    have ih:=Ajw f
    have hX:=hn.self
    have hkx:=hn.kids
    have ge:∀ (p:Wp) (tgt:Bool) (k:Nd) (s:Nat) (lp ex:Bool),p.scs.length≤(ndS f tgt k s lp ex p).scs.length:=fun p tgt k s lp ex=>(MW f tgt k s lp ex p).ge
    -- a kid,in a scope,Av9 from another one
    have kid2:∀ (tgt:Bool) (i s1 s2:Nat) (lp ex:Bool) (p:Wp),IAt I s1 p→s2<p.scs.length→IAt I s1 (ndS f tgt (n.kid i) s2 lp ex p):=by
      intro tgt i s1 s2 lp ex p h h2
      refine⟨?_,Nat.lt_of_lt_of_le h.2 (ge _ _ _ _ _ _)⟩
      unfold Nd.kid
      cases hi:n.kids[i]? with
      | none=>
        have:n.kids.getD i nd0=nd0:=by simp[List.getD,hi]
        rw[this,ApG];exact h.1
      | some k=>
        have:n.kids.getD i nd0=k:=by simp[List.getD,hi]
        rw[this];exact(ih tgt k s2 lp ex p (hkx k (List.mem_of_getElem? hi)) ⟨h.1,h2⟩).1
    have kid:∀ (tgt:Bool) (i s:Nat) (lp ex:Bool) (p:Wp),IAt I s p→IAt I s (ndS f tgt (n.kid i) s lp ex p):=fun tgt i s lp ex p h=>kid2 tgt i s s lp ex p h h.2
    have all2:∀ (tgt:Bool) (l:List Nd),(∀ k∈l,k.All X)→∀ (s1 s2:Nat) (lp ex:Bool) (p:Wp),IAt I s1 p→s2<p.scs.length→IAt I s1 (l.foldl (fun p k=>ndS f tgt k s2 lp ex p) p):=by
      intro tgt l hl s1 s2 lp ex
      induction l with
      | nil=>intro p h _;exact h
      | cons k r ihl=>
        intro p h h2
        rw[List.foldl_cons]
        refine ihl (fun k hk=>hl k (by simp[hk])) _ ⟨(ih tgt k s2 lp ex p (hl k (by simp)) ⟨h.1,h2⟩).1,Nat.lt_of_lt_of_le h.2 (ge _ _ _ _ _ _)⟩ (Nat.lt_of_lt_of_le h2 (ge _ _ _ _ _ _))
    have all:∀ (tgt:Bool) (l:List Nd),(∀ k∈l,k.All X)→∀ (s:Nat) (lp ex:Bool) (p:Wp),IAt I s p→IAt I s (l.foldl (fun p k=>ndS f tgt k s lp ex p) p):=fun tgt l hl s lp ex p h=>all2 tgt l hl s s lp ex p h h.2
    have flt:∀ (p:Wp) (c:Int) (b:Bool),IAt I s p→IAt I s (p.fault c n.at_ b):=fun p c b h=>⟨H.fault _ _ _ _ hX h.1,by rw[EA];exact h.2⟩
    have occ:∀ (p:Wp) (b:Bool),IAt I s p→IAt I s (p.occ s n.text n.at_ b):=fun p b h=>⟨H.occ _ _ _ _ hX h.2 h.1,Nat.lt_of_lt_of_le h.2 (Wp.sub_occ _ _ _ _ _).ge⟩
    have opn:∀ (p:Wp) (k:Int),(k=2∨k=3∨k=4)→IAt I s p→IAt I s (p.open_ k n.at_ s)∧p.scs.length<(p.open_ k n.at_ s).scs.length:=fun p k hk h=>⟨⟨H.opn _ _ _ _ hX hk h.2 h.1,Nat.lt_of_lt_of_le h.2 (Wp.sub_open _ _ _ _).ge⟩,by unfold Wp.open_;simp⟩
    have drop:∀ j,∀ k∈n.kids.drop j,k.All X:=fun j k hk=>hkx k (List.mem_of_mem_drop hk)
    have take:∀ j,∀ k∈n.kids.take j,k.All X:=fun j k hk=>hkx k (List.mem_of_mem_take hk)
    have hI:∀ {c:Prop} [Decidable c] {a b:Wp},(c→IAt I s a)→(¬ c→IAt I s b)→IAt I s (if c then a else b):=by
      intro c _ a b h1 h2
      split
      · rename_i hc;exact h1 hc
      · rename_i hc;exact h2 hc
    unfold ndS
    simp only
    refine hI (fun _ => ?_) fun _=>hI (fun _ => ?_) fun _=>hI (fun _ => ?_) fun _=>hI (fun _ => ?_) fun _=>hI (fun _ => ?_) fun _=>hI (fun _ => ?_) fun _=>hI (fun hk => ?_) fun _=>hI (fun _ => ?_) fun _=>hI (fun _ => ?_) fun _=>hI (fun _ => ?_) fun _=>hI (fun _ => ?_) fun _=>hI (fun _ => ?_) fun _=>hI (fun _ => ?_) fun _=>hI (fun _ => ?_) fun _=>hI (fun _ => ?_) fun _=>hI (fun _ => ?_) fun _ => ?_
    · exact occ _ _ h
    · exact all true _ hkx _ _ _ _ (flt _ _ _ h)
    · exact all false _ (drop 1) _ _ _ _ (kid true 0 _ _ _ _ h)
    · exact flt _ _ _ h
    · exact all false _ hkx _ _ _ _ (flt _ _ _ h)
    · exact all false _ hkx _ _ _ _ (flt _ _ _ h)
    · refine IAt.fold H n.kids p (fun k hkm p h => ?_) h
      have hk':n.kind=13∨n.kind=14:=by simpa using hk
      exact⟨H.decl _ _ _ _ (hkx k hkm).self hk' h.2 h.1,Nat.lt_of_lt_of_le h.2 (Wp.sub_decl _ _ _ _).ge⟩
    · exact kid false 2 _ _ _ _ (kid false 1 _ _ _ _ (kid true 0 _ _ _ _ h))
    · exact kid false 1 _ _ _ _ (kid false 0 _ _ _ _ h)
    · exact all false _ hkx _ _ _ _ ⟨H.tri _ _ h.2 h.1,by unfold Wp.mod;simpa using h.2⟩
    · exact kid false 1 _ _ _ _ (kid false 0 _ _ _ _ (hI (fun _=>h) fun _=>occ _ _ h))
    · have h1:=flt _ 109 (decide (((n.kids.length - 1:Nat):Int) > 1000)) (occ _ true h)
      have h2:IAt I s (AD [] (n.kids.take (n.kids.length - 1)) ((p.occ s n.text n.at_ true).fault 109 n.at_ (decide (((n.kids.length - 1:Nat):Int) > 1000)))):=⟨Inv.twice H _ _ _ (fun k hk=>(take _ k hk).self) h1.1,Nat.lt_of_lt_of_le h1.2 (Wp.sub_twice _ _ _).ge⟩
      generalize AD [] (n.kids.take (n.kids.length - 1)) ((p.occ s n.text n.at_ true).fault 109 n.at_ (decide (((n.kids.length - 1:Nat):Int) > 1000)))=p1 at h2 ⊢
      obtain⟨h3,h4⟩:=opn p1 2 (.inl rfl) h2
      have hk2:(p1.open_ 2 n.at_ s).kindOf p1.scs.length=2:=by
        have e:(p1.open_ 2 n.at_ s).scs=p1.scs ++ [⟨2,n.at_,s,[],[],0⟩]:=rfl
        unfold Wp.kindOf
        rw[e,List.getElem?_append_right (Nat.le_refl _),Nat.sub_self];rfl
      have h5:IAt I s (List.foldl (fun w k=>List.foldl (fun w k=>ndS f false k s lp ex w) (NN p1.scs.length k w) k.kids) (p1.open_ 2 n.at_ s) (n.kids.take (n.kids.length - 1)))∧p1.scs.length<(List.foldl (fun w k=>List.foldl (fun w k=>ndS f false k s lp ex w) (NN p1.scs.length k w) k.kids) (p1.open_ 2 n.at_ s) (n.kids.take (n.kids.length - 1))).scs.length:=by
        have:∀ (l:List Nd),(∀ k∈l,k.All X)→∀ p:Wp,IAt I s p→p1.scs.length<p.scs.length→(b=true→p.kindOf p1.scs.length=2)→IAt I s (List.foldl (fun w k=>List.foldl (fun w k=>ndS f false k s lp ex w) (NN p1.scs.length k w) k.kids) p l)∧p1.scs.length<(List.foldl (fun w k=>List.foldl (fun w k=>ndS f false k s lp ex w) (NN p1.scs.length k w) k.kids) p l).scs.length:=by
          intro l
          induction l with
          | nil=>intro _ p h h2 _;exact⟨h,h2⟩
          | cons k r ihl=>
            intro hl p h h2 hkk
            rw[List.foldl_cons]
            have hp:IAt I s (NN p1.scs.length k p):=⟨H.par _ _ _ (hl k (by simp)).self hkk h2 h.1,Nat.lt_of_lt_of_le h.2 (Wp.sub_par _ _ _).ge⟩
            have hp2:p1.scs.length<(NN p1.scs.length k p).scs.length:=Nat.lt_of_lt_of_le h2 (Wp.sub_par _ _ _).ge
            have hpk:(NN p1.scs.length k p).kindOf p1.scs.length=p.kindOf p1.scs.length:=Amk _ _ _ _
            refine ihl (fun k hk=>hl k (by simp[hk])) _ (all false _ (hl k (by simp)).kids _ _ _ _ hp) ?_ fun hb => ?_
            · have:=all2 false _ (hl k (by simp)).kids p1.scs.length s lp ex _ ⟨hp.1,hp2⟩ hp.2
              exact this.2
            · rw[Al3 (hK hb) f false k.kids s lp ex p1.scs.length _ hp.2 hp2,hpk]
              exact hkk hb
        exact this _ (take _) _ h3 h4 fun _=>hk2
      exact kid2 false _ s _ _ _ _ h5.1 h5.2
    · have h1:=occ p true h
      obtain⟨h3,h4⟩:=opn _ 3 (.inr (.inl rfl)) h1
      exact kid2 false 1 s _ _ _ _ (kid false 0 _ _ _ _ h3) (Nat.lt_of_lt_of_le h4 (ge _ _ _ _ _ _))
    · obtain⟨h3,h4⟩:=opn p 4 (.inr (.inr rfl)) h
      have k0:=kid2 false 0 s p.scs.length false false _ h3 h4
      have l0:=Nat.lt_of_lt_of_le h4 (ge (p.open_ 4 n.at_ s) false (n.kid 0) p.scs.length false false)
      have k1:=kid2 true 1 s p.scs.length false false _ k0 l0
      have l1:=Nat.lt_of_lt_of_le l0 (ge (ndS f false (n.kid 0) p.scs.length false false (p.open_ 4 n.at_ s)) true (n.kid 1) p.scs.length false false)
      exact all2 false _ (drop 3) s _ _ _ _ (kid false 2 _ _ _ _ k1) (Nat.lt_of_lt_of_le l1 (ge _ _ _ _ _ _))
    · refine all false _ hkx _ _ _ _ ?_
      have h1:=flt p 109 (decide ((n.kids.length:Int) > 1000)) h
      exact⟨Inv.twice H _ _ _ (fun k hk=>(hkx k (List.mem_filter.1 hk).1).self) h1.1,Nat.lt_of_lt_of_le h1.2 (Wp.sub_twice _ _ _).ge⟩
    · exact all false _ hkx _ _ _ _ (flt _ _ _ h)
    · exact all false _ hkx _ _ _ _ h
end
theorem CF{κ α:Type}[DecidableEq κ]{k:κ}{v:α}:∀ {l:List (κ×α)},ZJ l k=some v→(k,v)∈l
  | [],h=>by cases h
  | p :: l,h=>by
    unfold ZJ at h
    split at h
    · rename_i hp
      cases h
      rw[← hp];exact List.mem_cons_self
    · exact List.mem_cons_of_mem _ (CF h)
theorem TA{κ α:Type}[DecidableEq κ]{k:κ}:∀ {l:List (κ×α)},ZJ l k=none→k ∉ l.map (·.1)
  | [],_=>by simp
  | p :: l,h=>by
    unfold ZJ at h
    split at h
    · cases h
    · rename_i hp
      have:=TA h
      intro hm
      rcases List.mem_cons.1 hm with rfl | hm
      · exact hp rfl
      · exact this hm
theorem AeX{κ α:Type}[DecidableEq κ](k:κ)(v:α):∀ l:List (κ×α),(k∈l.map (·.1)∧(CU l k v).map (·.1)=l.map (·.1))∨(k ∉ l.map (·.1)∧(CU l k v).map (·.1)=l.map (·.1) ++ [k])
  | []=>.inr ⟨by simp,rfl⟩
  | p :: l=>by
    unfold CU
    split
    · rename_i hp
      subst hp
      exact .inl ⟨by simp,rfl⟩
    · rename_i hp
      rw[List.map_cons,List.map_cons]
      rcases AeX k v l with⟨h1,h2⟩ | ⟨h1,h2⟩
      · exact .inl ⟨List.mem_cons_of_mem _ h1,by rw[h2]⟩
      · refine .inr ⟨fun h => ?_,by rw[h2];rfl⟩
        rcases List.mem_cons.1 h with h | h
        · exact hp h.symm
        · exact h1 h
def Sc.Nms(T:ByteArray→Prop)(s:Sc):Prop:=(s.names.map (·.1)).Nodup∧∀ t∈s.names.map (·.1),T t
theorem AsH(s:Sc)(t:ByteArray)(f:Nm→Nm):(s.upd t f).names.map (·.1)=s.names.map (·.1):=by
  unfold Sc.upd
  rw[List.map_map]
  refine List.map_congr_left fun p _ => ?_
  simp only[Function.comp]
  split<;>rfl
theorem Atv(s:Sc)(t:ByteArray):(t∈s.names.map (·.1)∧(s.of t).names.map (·.1)=s.names.map (·.1))∨(t ∉ s.names.map (·.1)∧(s.of t).names.map (·.1)=s.names.map (·.1) ++ [t]):=by
  unfold Sc.of
  cases h:ZJ s.names t with
  | some v=>exact .inl ⟨List.mem_map.2 ⟨_,CF h,rfl⟩,rfl⟩
  | none=>
    rcases AeX t nm0 s.names with h1 | h1
    · exact absurd h1.1 (TA h)
    · exact .inr h1
theorem Sc.Nms.of{T:ByteArray→Prop}{s:Sc}(h:s.Nms T){t:ByteArray}(ht:T t):(s.of t).Nms T:=by
  unfold Sc.Nms
  rcases Atv s t with⟨_,h2⟩ | ⟨hn,h2⟩<;>rw[h2]
  · exact h
  · refine⟨?_,fun u hu => ?_⟩
    · rw[List.nodup_append]
      refine⟨h.1,by simp,fun a ha b hb => ?_⟩
      rw[List.mem_singleton] at hb
      subst hb
      exact fun he=>hn (he▸ha)
    · rcases List.mem_append.1 hu with hu | hu
      · exact h.2 u hu
      · rw[List.mem_singleton] at hu
        subst hu;exact ht
theorem Sc.Nms.upd{T:ByteArray→Prop}{s:Sc}(h:s.Nms T)(t:ByteArray)(f:Nm→Nm):(s.upd t f).Nms T:=by
  unfold Sc.Nms
  rw[AsH]
  exact h
theorem LP{C:Sc→Prop}{p:Wp}{i:Nat}{f:Sc→Sc}(hf:∀ c,C c→C (f c))(h:∀ c∈p.scs,C c):∀ c∈(p.mod i f).scs,C c:=by
  intro c hc
  have hc:c∈p.scs.modify i f:=hc
  obtain⟨j,hj⟩:=List.mem_iff_getElem?.1 hc
  rw[List.getElem?_modify] at hj
  cases hp:p.scs[j]? with
  | none=>rw[hp] at hj;simp at hj
  | some x=>
    rw[hp] at hj
    simp only[Option.map_eq_map,Option.map_some,Option.some.injEq] at hj
    have hx:=h x (List.mem_of_getElem? hp)
    split at hj
    · rw[← hj];exact hf x hx
    · rw[← hj];exact hx
theorem ArX{C:Sc→Prop}{p:Wp}{i:Nat}{f:Sc→Sc}(hf:∀ c,p.scs[i]? = some c→C c→C (f c))(h:∀ c∈p.scs,C c):∀ c∈(p.mod i f).scs,C c:=by
  intro c hc
  have hc:c∈p.scs.modify i f:=hc
  obtain⟨j,hj⟩:=List.mem_iff_getElem?.1 hc
  rw[List.getElem?_modify] at hj
  cases hp:p.scs[j]? with
  | none=>rw[hp] at hj;simp at hj
  | some x=>
    rw[hp] at hj
    simp only[Option.map_eq_map,Option.map_some,Option.some.injEq] at hj
    have hx:=h x (List.mem_of_getElem? hp)
    split at hj
    · rename_i hij
      subst hij
      rw[← hj];exact hf x hp hx
    · rw[← hj];exact hx
theorem AoP{b:Bool}{X:Nd→Prop}{C:Sc→Prop}(h0:∀ k a (s:Nat),(k=2∨k=3∨k=4)→C ⟨k,a,s,[],[],0⟩)
    (occ:∀ c n b,X n→C c→C (c.occ n.text n.at_ b)) (decl:∀ c kind k,X k→(kind=13∨kind=14)→C c→C ((c.of k.text).upd k.text fun n=>{ n with by_:=kind }))
    (par:∀ c k,X k→(b=true→c.kind=2)→C c→C { ((c.occ k.text k.at_ true).of k.text).upd k.text (fun n=>{ n with param:=true }) with params:=(c.occ k.text k.at_ true).params ++ [k.text] }) (tri:∀ c,C c→C { c with tries:=c.tries+1 }) :
    Inv b X fun p=>∀ c∈p.scs,C c where
  occ:=fun p i n b hn _ h=>LP (fun c hc=>occ c n b hn hc) h
  fault:=fun p c n b hn h=>by rw[EA];exact h
  opn:=fun p k n s hn hk _ h c hc=>by
    have hc:c∈p.scs ++ [⟨k,n.at_,s,[],[],0⟩]:=hc
    rcases List.mem_append.1 hc with hc | hc
    · exact h c hc
    · rw[List.mem_singleton] at hc
      subst hc
      exact h0 k n.at_ s hk
  decl:=fun p kind i k hk hkind _ h=>by
    unfold PK
    intro c hc
    have hc:c∈(((p.mod i (·.of k.text)).fault 114 k.at_ ((p.mod i (·.of k.text)).byOf i k.text != 0 && (p.mod i (·.of k.text)).byOf i k.text != kind)).mod i fun c=>c.upd k.text fun n=>{ n with by_:=kind }).scs:=hc
    have e:∀ (q:Wp) (g:Sc→Sc),(q.mod i g).scs=q.scs.modify i g:=fun q g=>rfl
    rw[e,EA,e] at hc
    have e2:(p.scs.modify i (·.of k.text)).modify i (fun c=>c.upd k.text fun n=>{ n with by_:=kind })=p.scs.modify i fun c=>(c.of k.text).upd k.text fun n=>{ n with by_:=kind }:=by
      apply List.ext_getElem?
      intro j
      rw[List.getElem?_modify,List.getElem?_modify,List.getElem?_modify]
      cases p.scs[j]? with
      | none=>rfl
      | some x=>by_cases hij:i=j<;>simp[hij]
    rw[e2] at hc
    exact LP (p:=p) (i:=i) (fun c hc=>decl c kind k hk hkind hc) h c hc
  par:=fun p i k hk hkind _ h=>by
    unfold NN
    intro c hc
    have e2:(p.scs.modify i fun s=>s.occ k.text k.at_ true).modify i (fun c=>{ (c.of k.text).upd k.text (fun n=>{ n with param:=true }) with params:=c.params ++ [k.text] })=p.scs.modify i fun c=>{ ((c.occ k.text k.at_ true).of k.text).upd k.text (fun n=>{ n with param:=true }) with params:=(c.occ k.text k.at_ true).params ++ [k.text] }:=by
      apply List.ext_getElem?
      intro j
      rw[List.getElem?_modify,List.getElem?_modify,List.getElem?_modify]
      cases p.scs[j]? with
      | none=>rfl
      | some x=>by_cases hij:i=j<;>simp[hij]
    have hc:c∈(p.scs.modify i fun s=>s.occ k.text k.at_ true).modify i (fun c=>{ (c.of k.text).upd k.text (fun n=>{ n with param:=true }) with params:=c.params ++ [k.text] }):=hc
    rw[e2] at hc
    exact ArX (p:=p) (i:=i) (fun c hs hc=>par c k hk (fun hb=>by have:=hkind hb;unfold Wp.kindOf at this;rw[hs] at this;exact this) hc) h c hc
  tri:=fun p i _ h=>LP (fun c hc=>tri c hc) h
theorem ApH{b:Bool}(T:ByteArray→Prop):Inv b (fun n=>T n.text) fun p=>∀ c∈p.scs,c.Nms T:=
  AoP (fun k a s _=>⟨by simp,by simp⟩) (fun c n b hn h=>(h.of hn).upd _ _) (fun c kind k hk _ h=>(h.of hk).upd _ _)
    (fun c k hk _ h=>by
      have h1:(c.occ k.text k.at_ true).Nms T:=(h.of hk).upd _ _
      have h2:(((c.occ k.text k.at_ true).of k.text).upd k.text fun n=>{ n with param:=true }).Nms T:=(h1.of hk).upd _ _
      exact h2) fun c h=>h
end Go.Proofs.YtjiagmjfnbljjaaGreatDoor
end
section
namespace Go.Proofs.YtjiagmjfnbljjaaGreatDoor
open Go
set_option maxHeartbeats 4000000
set_option linter.unusedVariables false
theorem Ah0{α:Type}(t u:ByteArray)(f:α→α):∀ l:List (ByteArray×α),ZJ (l.map fun p=>if p.1=t then(p.1,f p.2) else p) u=if u=t then(ZJ l u).map f else ZJ l u
  | []=>by simp[ZJ]
  | p :: l=>by
    rw[List.map_cons]
    unfold ZJ
    by_cases h1:p.1=t
    · rw[if_pos h1]
      by_cases h2:p.1=u
      · rw[if_pos h2,if_pos h2,if_pos (by rw[← h2,h1])];rfl
      · rw[if_neg h2,if_neg h2];exact Ah0 t u f l
    · rw[if_neg h1]
      by_cases h2:p.1=u
      · rw[if_pos h2,if_pos h2,if_neg (fun h=>h1 (by rw[h2,h]))]
      · rw[if_neg h2,if_neg h2];exact Ah0 t u f l
theorem Ap2(s:Sc)(t u:ByteArray)(f:Nm→Nm):ZJ (s.upd t f).names u=if u=t then(ZJ s.names u).map f else ZJ s.names u:=Ah0 t u f s.names
theorem Ad3{κ α:Type}[DecidableEq κ](t u:κ)(v:α):∀ l:List (κ×α),ZJ (CU l t v) u=if u=t then some v else ZJ l u
  | []=>by
    unfold CU ZJ ZJ
    by_cases h:t=u
    · rw[if_pos h,if_pos h.symm]
    · rw[if_neg h,if_neg (Ne.symm h)]
  | p :: l=>by
    unfold CU
    by_cases hp:p.1=t
    · rw[if_pos hp]
      unfold ZJ
      by_cases h:t=u
      · rw[if_pos h,if_pos h.symm]
      · rw[if_neg h,if_neg (Ne.symm h),if_neg (by rw[hp];exact h)]
    · rw[if_neg hp]
      unfold ZJ
      by_cases h:p.1=u
      · rw[if_pos h,if_pos h,if_neg (fun he=>hp (by rw[h,he]))]
      · rw[if_neg h,if_neg h];exact Ad3 t u v l
theorem AmZ(s:Sc)(t u:ByteArray):ZJ (s.of t).names u=if u=t then some ((ZJ s.names u).getD nm0) else ZJ s.names u:=by
  unfold Sc.of
  cases h:ZJ s.names t with
  | some v=>
    dsimp only
    by_cases hu:u=t
    · rw[if_pos hu,hu,h];rfl
    · rw[if_neg hu]
  | none=>
    dsimp only
    rw[Ad3]
    by_cases hu:u=t
    · rw[if_pos hu,if_pos hu,hu,h];rfl
    · rw[if_neg hu,if_neg hu]
theorem AkI(s:Sc)(t u:ByteArray):(s.of t).nm u=s.nm u:=by
  unfold Sc.nm
  rw[AmZ]
  split
  · rfl
  · rfl
theorem Akm(s:Sc)(t:ByteArray):s.gives t=((s.kind==2 || s.kind==4) && ((s.nm t).bound && (s.nm t).by_==0)):=by
  unfold Sc.gives Sc.nm
  cases ZJ s.names t<;>rfl
structure Sc.Sm(s s':Sc):Prop where
  kind:s'.kind=s.kind
  around:s'.around=s.around
  bound:∀ t,(s'.nm t).bound=(s.nm t).bound
  by_:∀ t,(s'.nm t).by_=(s.nm t).by_
theorem Sc.Sm.refl(s:Sc):s.Sm s:=⟨rfl,rfl,fun _=>rfl,fun _=>rfl⟩
theorem Sc.Sm.trans{a b c:Sc}(h:a.Sm b)(k:b.Sm c):a.Sm c:=⟨k.1.trans h.1,k.2.trans h.2,fun t=>(k.3 t).trans (h.3 t),fun t=>(k.4 t).trans (h.4 t)⟩
theorem Sc.Sm.gives{s s':Sc}(h:s.Sm s')(t:ByteArray):s'.gives t=s.gives t:=by rw[Akm,Akm,h.kind,h.bound,h.by_]
theorem Sc.Sm.of(s:Sc)(t:ByteArray):s.Sm (s.of t):=by
  refine⟨?_,KN t s,fun u=>by rw[AkI],fun u=>by rw[AkI]⟩
  unfold Sc.of;split<;>rfl
def Uo(f:Nm→Nm):Prop:=∀ n,(f n).bound=n.bound∧(f n).by_=n.by_
theorem Sc.Sm.upd(s:Sc)(t:ByteArray){f:Nm→Nm}(hf:Uo f):s.Sm (s.upd t f):=by
  have h:∀ u,((s.upd t f).nm u).bound=(s.nm u).bound∧((s.upd t f).nm u).by_=(s.nm u).by_:=by
    intro u
    unfold Sc.nm
    rw[Ap2]
    split
    · cases ZJ s.names u with
      | none=>exact⟨rfl,rfl⟩
      | some n=>exact hf n
    · exact⟨rfl,rfl⟩
  exact⟨rfl,rfl,fun u=>(h u).1,fun u=>(h u).2⟩
structure Sm(p q:Wp):Prop where
  len:q.scs.length=p.scs.length
  sc:∀ (i:Nat) (s:Sc),p.scs[i]? = some s→∃ s',q.scs[i]? = some s'∧s.Sm s'
theorem Sm.refl(p:Wp):Sm p p:=⟨rfl,fun i s h=>⟨s,h,.refl s⟩⟩
theorem Sm.trans{a b c:Wp}(h:Sm a b)(k:Sm b c):Sm a c:=by
  refine⟨k.len.trans h.len,fun i s hs => ?_⟩
  obtain⟨s1,h1,h2⟩:=h.sc i s hs
  obtain⟨s2,h3,h4⟩:=k.sc i s1 h1
  exact⟨s2,h3,h2.trans h4⟩
theorem Aa1(p:Wp)(i:Nat)(f:Sc→Sc)(j:Nat):(p.mod i f).scs[j]? = if i=j then(p.scs[j]?).map f else p.scs[j]?:=by
  show(p.scs.modify i f)[j]? = _
  rw[List.getElem?_modify]
  split<;>simp_all
theorem Sm.mod(p:Wp)(i:Nat){f:Sc→Sc}(hf:∀ s:Sc,Sc.Sm s (f s)):Sm p (p.mod i f):=by
  refine⟨by unfold Wp.mod;simp,fun j s hs => ?_⟩
  rw[Aa1,hs]
  split
  · exact⟨_,rfl,hf s⟩
  · exact⟨_,rfl,.refl s⟩
theorem Sm.none{p q:Wp}(h:Sm p q){i:Nat}(hs:p.scs[i]? = none):q.scs[i]? = none:=by
  rw[List.getElem?_eq_none_iff] at hs ⊢
  rw[h.len];exact hs
theorem Sm.kind{p q:Wp}(h:Sm p q)(i:Nat):q.kindOf i=p.kindOf i:=by
  unfold Wp.kindOf
  cases hs:p.scs[i]? with
  | none=>rw[h.none hs]
  | some s=>obtain⟨s',h1,h2⟩:=h.sc i s hs;rw[h1];exact h2.kind
theorem Sm.ar{p q:Wp}(h:Sm p q)(i:Nat):ZM q i=ZM p i:=by
  unfold ZM
  cases hs:p.scs[i]? with
  | none=>rw[h.none hs]
  | some s=>obtain⟨s',h1,h2⟩:=h.sc i s hs;rw[h1];exact h2.around
theorem Sm.nmb{p q:Wp}(h:Sm p q)(i:Nat)(t:ByteArray):(q.nmOf i t).bound=(p.nmOf i t).bound∧(q.nmOf i t).by_=(p.nmOf i t).by_:=by
  unfold Wp.nmOf
  cases hs:p.scs[i]? with
  | none=>rw[h.none hs];exact⟨rfl,rfl⟩
  | some s=>obtain⟨s',h1,h2⟩:=h.sc i s hs;rw[h1];exact⟨h2.bound t,h2.by_ t⟩
theorem Sm.homeL{p q:Wp}(h:Sm p q)(t:ByteArray):∀ f i,homeL q t f i=homeL p t f i
  | 0,i=>rfl
  | f+1,i=>by
    unfold Go.Proofs.YtjiagmjfnbljjaaGreatDoor.homeL
    split
    · rfl
    · cases hs:p.scs[i.toNat]? with
      | none=>rw[h.none hs]
      | some s=>
        obtain⟨s',h1,h2⟩:=h.sc _ s hs
        rw[h1]
        dsimp only
        rw[h2.gives,h2.around,Sm.homeL h t f s.around]
theorem Sm.home{p q:Wp}(h:Sm p q)(i:Nat)(t:ByteArray):VZ q i t=VZ p i t:=by
  unfold VZ
  cases hs:p.scs[i]? with
  | none=>rw[h.none hs]
  | some s=>
    obtain⟨s',h1,h2⟩:=h.sc _ s hs
    rw[h1]
    dsimp only
    rw[h2.around,h.len,h.homeL]
theorem Sm.what{p q:Wp}(h:Sm p q)(i:Nat)(t:ByteArray):AbN q i t=AbN p i t:=by
  unfold AbN
  rw[h.kind,(h.nmb i t).1,(h.nmb i t).2,h.home]
theorem Sm.arnd{p q:Wp}(h:Sm p q)(ha:CX p):CX q:=by
  intro i s' hs'
  cases hs:p.scs[i]? with
  | none=>rw[h.none hs] at hs';cases hs'
  | some s=>
    obtain⟨s2,h1,h2⟩:=h.sc _ s hs
    rw[h1] at hs';cases hs'
    rw[h2.around];exact ha i s hs
theorem AeF(k:Int):Uo (Nm.put k):=fun _=>⟨rfl,rfl⟩
theorem Avu(k:Int):Uo (Nm.del k):=fun _=>⟨rfl,rfl⟩
theorem ApW(i:Nat)(p:Wp)(t:ByteArray):Sm p (AlJ i p t):=Sm.mod p i fun s=>.upd s t (AeF _)
theorem ApV(h:Int)(t:ByteArray):∀ f k p,Sm p (ME h t f k p)
  | 0,k,p=>.refl p
  | f+1,k,p=>by
    unfold ME
    split
    · exact(Sm.mod p k.toNat fun s=>(Sc.Sm.of s t).trans (.upd _ t (AeF 3))).trans (ApV h t f _ _)
    · exact .refl p
theorem AcI(i:Nat)(p:Wp)(t:ByteArray):Sm p (EX i p t):=by
  unfold EX
  split
  · exact .refl p
  · exact(ApV _ _ _ _ _).trans (Sm.mod _ _ fun s=>.upd s t fun n=>⟨rfl,rfl⟩)
theorem Ahj{α:Type}{f:Wp→α→Wp}(hf:∀ p x,Sm p (f p x)):∀ (l:List α) (p:Wp),Sm p (l.foldl f p)
  | [],p=>.refl p
  | x :: l,p=>by rw[List.foldl_cons];exact(hf p x).trans (Ahj hf l _)
theorem Asr(p:Wp):Sm p (BV p):=Ahj (fun p i=>Ahj (fun p t=>ApW i p t) _ _) _ _
theorem Ass(p:Wp):Sm p (BW p):=Ahj (fun p i=>Ahj (fun p t=>AcI i p t) _ _) _ _
theorem Aco{p:Wp}(ha:CX p)(t:ByteArray):∀ (f g:Nat) (i:Int),i+1<(f:Int)→i+1<(g:Int)→homeL p t f i=homeL p t g i
  | 0,g,i,h1,h2=>by
    cases g with
    | zero=>rfl
    | succ g=>unfold homeL;rw[if_pos (by omega)]
  | f+1,0,i,h1,h2=>by unfold homeL;rw[if_pos (by omega)]
  | f+1,g+1,i,h1,h2=>by
    unfold homeL
    split
    · rfl
    · cases hs:p.scs[i.toNat]? with
      | none=>rfl
      | some s=>
        have:=ha _ s hs
        dsimp only
        rw[Aco ha t f g s.around (by omega) (by omega)]
theorem Akp{p:Wp}(ha:CX p)(t:ByteArray):∀ (f:Nat) (i:Int),0≤homeL p t f i→homeL p t f i≤i∧∃ c,p.scs[(homeL p t f i).toNat]? = some c∧c.gives t=true
  | 0,i,h=>by
    have e:homeL p t 0 i = -1:=rfl
    rw[e] at h;omega
  | f+1,i,h=>by
    unfold homeL at h ⊢
    split at h
    · omega
    · rename_i hi
      rw[if_neg hi]
      cases hs:p.scs[i.toNat]? with
      | none=>rw[hs] at h;dsimp only at h;omega
      | some s=>
        rw[hs] at h
        dsimp only at h ⊢
        by_cases hg:s.gives t=true
        · rw[if_pos hg]
          exact⟨Int.le_refl _,s,hs,hg⟩
        · rw[if_neg hg] at h ⊢
          have:=Akp ha t f s.around h
          have hb:=ha _ s hs
          exact⟨by omega,this.2⟩
theorem Acp{p:Wp}(ha:CX p){i:Nat}{t:ByteArray}(h:0≤VZ p i t):VZ p i t<i∧VZ p i t≤ZM p i∧∃ c,p.scs[(VZ p i t).toNat]? = some c∧c.gives t=true:=by
  unfold VZ ZM at *
  cases hs:p.scs[i]? with
  | none=>rw[hs] at h;dsimp only at h;omega
  | some s=>
    rw[hs] at h
    dsimp only at h ⊢
    have:=Akp ha t _ _ h
    have hb:=ha _ s hs
    exact⟨by omega,this⟩
theorem Akq{p:Wp}(ha:CX p)(t:ByteArray){f:Nat}{k:Int}(hf:k+1<(f:Int))(h:homeL p t f k<k)(h0:0≤homeL p t f k):VZ p k.toNat t=homeL p t f k∧homeL p t f (ZM p k.toNat)=homeL p t f k∧-1≤ZM p k.toNat∧ZM p k.toNat<k:=by
  obtain⟨f,rfl⟩:∃ g,f=g+1:=⟨f - 1,by omega⟩
  have hk:¬ k<0:=by omega
  have he:homeL p t (f+1) k=match p.scs[k.toNat]? with
    | some s=>if s.gives t then k else homeL p t f s.around
    | none=>-1:=by
    conv=>lhs;unfold homeL
    rw[if_neg hk]
    all_goals rfl
  cases hs:p.scs[k.toNat]? with
  | none=>rw[hs] at he;dsimp only at he;omega
  | some s=>
    rw[hs] at he
    dsimp only at he
    have hb:=ha _ s hs
    have hlt:=(List.getElem?_eq_some_iff.1 hs).1
    by_cases hg:s.gives t=true
    · rw[if_pos hg] at he;omega
    · rw[if_neg hg] at he
      have ea:ZM p k.toNat=s.around:=by unfold ZM;rw[hs]
      refine⟨?_,?_,by rw[ea];omega,by rw[ea];omega⟩
      · unfold VZ
        rw[hs,he]
        exact Aco ha t _ _ _ (by omega) (by omega)
      · rw[ea,he]
        exact Aco ha t _ _ _ (by omega) (by omega)
def GK(p:Wp)(i:Nat)(t:ByteArray)(k:Int):Bool:=(ZJ (p.nmOf i t).uses k).isSome
theorem FP(p:Wp)(i:Nat)(f:Sc→Sc)(j:Nat)(t:ByteArray):(p.mod i f).nmOf j t=if i=j then(match p.scs[j]? with | some c=>(f c).nm t | none=>nm0) else p.nmOf j t:=by
  unfold Wp.nmOf
  rw[Aa1]
  by_cases hij:i=j
  · rw[if_pos hij,if_pos hij]
    cases p.scs[j]? <;> rfl
  · rw[if_neg hij,if_neg hij]
theorem AeG(s:Sc)(t u:ByteArray)(f:Nm→Nm):(s.upd t f).nm u=if u=t then(match ZJ s.names u with | some n=>f n | none=>nm0) else s.nm u:=by
  unfold Sc.nm
  rw[Ap2]
  split
  · cases ZJ s.names u<;>rfl
  · rfl
theorem AcA(n:Nm)(k j:Int):ZJ (n.put k).uses j=if j=k then some 0 else ZJ n.uses j:=Ad3 k j 0 n.uses
theorem AdZ{κ α:Type}[DecidableEq κ](t u:κ):∀ l:List (κ×α),u≠t→ZJ (Adr l t) u=ZJ l u
  | [],_=>rfl
  | p :: l,h=>by
    unfold Adr
    by_cases hp:p.1=t
    · rw[if_pos hp]
      conv=>rhs;unfold ZJ
      rw[if_neg (fun he=>h (by rw[← he,hp]))]
    · rw[if_neg hp]
      unfold ZJ
      split
      · rfl
      · exact AdZ t u l h
def DZ(p:Wp):Prop:=∀ i t,GK p i t 3=true→0≤VZ p i t
theorem Agt(p:Wp)(k i:Nat)(t u:ByteArray)(j:Int)(hj:GK (p.mod k fun s=>(s.of t).upd t (Nm.put 3)) i u j=true):GK p i u j=true∨(i=k∧u=t∧j=3):=by
  unfold GK at *
  rw[FP] at hj
  split at hj
  · rename_i hki
    subst hki
    cases hs:p.scs[k]? with
    | none=>rw[hs] at hj;cases hj
    | some c=>
      rw[hs] at hj
      dsimp only at hj
      rw[AeG] at hj
      split at hj
      · rename_i hu
        subst hu
        rw[AmZ,if_pos rfl] at hj
        dsimp only at hj
        rw[AcA] at hj
        split at hj
        · rename_i h3
          exact .inr ⟨rfl,rfl,h3⟩
        · left
          unfold Wp.nmOf
          rw[hs];exact hj
      · left
        rw[AkI] at hj
        unfold Wp.nmOf
        rw[hs];exact hj
  · exact .inl hj
theorem AeO{p:Wp}(ha:CX p)(h:Int)(h0:0≤h)(t:ByteArray):∀ (f:Nat) (k:Int) (g:Nat),k+1<(g:Int)→homeL p t g k=h→DZ p→DZ (ME h t f k p)∧∀ j:Nat,(j:Int)≤h→(ME h t f k p).scs[j]? = p.scs[j]?
  | 0,k,g,_,_,hF=>⟨hF,fun _ _=>rfl⟩
  | f+1,k,g,hg,hk,hF=>by
    unfold ME
    split
    · rename_i hlt
      obtain⟨h1,h2,h3,h4⟩:=Akq ha t hg (by omega) (by omega)
      have hsm:Sm p (p.mod k.toNat fun s=>(s.of t).upd t (Nm.put 3)):=Sm.mod p k.toNat fun s=>(Sc.Sm.of s t).trans (.upd _ t (AeF 3))
      have hF1:DZ (p.mod k.toNat fun s=>(s.of t).upd t (Nm.put 3)):=by
        intro i u hu
        rw[hsm.home]
        rcases Agt p _ _ _ _ _ hu with hu | ⟨rfl,rfl,_⟩
        · exact hF i u hu
        · rw[h1,hk];exact h0
      obtain⟨h5,h6⟩:=AeO (hsm.arnd ha) h h0 t f (ZM p k.toNat) g (by omega) (by rw[hsm.homeL,h2,hk]) hF1
      refine⟨h5,fun j hj => ?_⟩
      rw[h6 j hj,Aa1,if_neg (by omega)]
    · exact⟨hF,fun _ _=>rfl⟩
theorem Akr{p:Wp}{i:Nat}{t:ByteArray}(h:0≤VZ p i t):homeL p t (p.scs.length+1) (ZM p i)=VZ p i t:=by
  unfold VZ ZM at *
  cases hs:p.scs[i]? with
  | none=>rw[hs] at h;dsimp only at h;omega
  | some s=>rfl
theorem SZ{p:Wp}(ha:CX p)(i:Nat) : -1≤ZM p i∧ZM p i+1<((p.scs.length+1:Nat):Int):=by
  unfold ZM
  cases hs:p.scs[i]? with
  | none=>dsimp only;omega
  | some s=>
    have:=ha i s hs
    have hl:=(List.getElem?_eq_some_iff.1 hs).1
    dsimp only;omega
theorem AeP{p:Wp}(ha:CX p)(hF:DZ p)(i:Nat)(t:ByteArray):DZ (EX i p t):=by
  unfold EX
  split
  · exact hF
  · rename_i hu
    have hu:GK p i t 3=true:=by unfold GK;cases h:ZJ (p.nmOf i t).uses 3<;>simp_all
    have h0:=hF i t hu
    obtain⟨h1,h2⟩:=AeO ha _ h0 t (p.scs.length+1) (ZM p i) (p.scs.length+1) (SZ ha i).2 (Akr h0) hF
    generalize ME (VZ p i t) t (p.scs.length+1) (ZM p i) p=q at h1 h2
    intro j u hj
    have hsm:Sm q (q.mod (VZ p i t).toNat fun s=>s.upd t fun n=>(n.del 1).put 2):=Sm.mod q _ fun s=>.upd s t fun n=>⟨rfl,rfl⟩
    rw[hsm.home]
    refine h1 j u ?_
    unfold GK at hj ⊢
    rw[FP] at hj
    split at hj
    · rename_i hij
      cases hs:q.scs[j]? with
      | none=>rw[hs] at hj;cases hj
      | some c=>
        rw[hs] at hj
        dsimp only at hj
        unfold Wp.nmOf
        rw[hs]
        dsimp only
        rw[AeG] at hj
        split at hj
        · rename_i hut
          cases hg:ZJ c.names u with
          | none=>rw[hg] at hj;cases hj
          | some n=>
            rw[hg] at hj
            dsimp only at hj
            rw[AcA,if_neg (by omega)] at hj
            have:ZJ (n.del 1).uses 3=ZJ n.uses 3:=AdZ 1 3 n.uses (by omega)
            rw[this] at hj
            unfold Sc.nm
            rw[hg];exact hj
        · exact hj
    · exact hj
end Go.Proofs.YtjiagmjfnbljjaaGreatDoor
end
section
namespace Go.Proofs.YtjiagmjfnbljjaaGreatDoor
open Go
set_option maxHeartbeats 4000000
set_option linter.unusedVariables false
set_option linter.unusedSectionVars false
mutual
def Nd.dec:Nd→List Int
  | .mk k a t g m ks=>if k==13 || k==14 then ks.map Nd.at_ else Nd.decs ks
def Nd.decs:List Nd→List Int
  | []=>[]
  | k :: r=>Nd.dec k++Nd.decs r
end
theorem IE{k a:Int}{t:ByteArray}{ks:List Nd}(h:(k==13 || k==14)=false):(nod k a t ks).dec=Nd.decs ks:=by
  unfold nod Nd.dec
  rw[if_neg (ne_true_of_eq_false h)]
theorem QY:Nd.decs [] = []:=by unfold Nd.decs;rfl
theorem YC(k:Nd)(r:List Nd):Nd.decs (k :: r)=k.dec++Nd.decs r:=by conv=>lhs;unfold Nd.decs
theorem Ag3:∀ a b:List Nd,Nd.decs (a++b)=Nd.decs a++Nd.decs b
  | [],b=>by rw[QY];rfl
  | k :: a,b=>by rw[List.cons_append,YC,YC,Ag3 a b,List.append_assoc]
theorem AH{k a:Int}{t:ByteArray}{ks:List Nd}(h:(k==13 || k==14)=false)(hk:Nd.decs ks = []):(nod k a t ks).dec = []:=by rw[IE h,hk]
theorem MM{k:Nd}{r:List Nd}(h:k.dec = [])(hr:Nd.decs r = []):Nd.decs (k :: r) = []:=by rw[YC,h,hr];rfl
theorem AkE{a b:List Nd}(h:Nd.decs a = [])(hr:Nd.decs b = []):Nd.decs (a++b) = []:=by rw[Ag3,h,hr];rfl
theorem Ars{n:Nd}(h:n.dec = []):Nd.decs n.kids = []:=by
  cases n with
  | mk k a t g m ks=>
    unfold Nd.dec at h
    split at h
    · have:ks = []:=by simpa using h
      show Nd.decs ks = []
      rw[this,QY]
    · exact h
theorem Art(n:Nd)(a:Int):(Ao3 n a).dec=n.dec:=by cases n;unfold Ao3 Nd.dec;rfl
theorem Aux{k a:Int}{t:ByteArray}{g:Bool}{m:List Int}{ks:List Nd}(h:(k==13 || k==14)=false):(Nd.mk k a t g m ks).dec=Nd.decs ks:=by
  unfold Nd.dec
  rw[if_neg (ne_true_of_eq_false h)]
theorem Av4{k a:Int}{t:ByteArray}{g:Bool}{m:List Int}{ks:List Nd}(h:(k==13 || k==14)=false)(hk:Nd.decs ks = []):(Nd.mk k a t g m ks).dec = []:=by rw[Aux h,hk]
def Rg(hi:Int)(n:Nd):Prop:=0≤n.at_∧n.at_≤hi
section
variable{hi:Int}
theorem ZV{k a:Int}{t:ByteArray}{ks:List Nd}(h:0≤a∧a≤hi)(hk:Nd.Alls (Rg hi) ks):(nod k a t ks).All (Rg hi):=Nd.All_iff.2 ⟨h,Nd.Alls_mem.1 hk⟩
theorem Aum{k a:Int}{t:ByteArray}{g:Bool}{m:List Int}{ks:List Nd}(h:0≤a∧a≤hi)(hk:Nd.Alls (Rg hi) ks):(Nd.mk k a t g m ks).All (Rg hi):=Nd.All_iff.2 ⟨h,Nd.Alls_mem.1 hk⟩
theorem QU:Nd.Alls (Rg hi) []:=by unfold Nd.Alls;trivial
theorem QE{k:Nd}{r:List Nd}(h:k.All (Rg hi))(hr:Nd.Alls (Rg hi) r):Nd.Alls (Rg hi) (k :: r):=by unfold Nd.Alls;exact⟨h,hr⟩
theorem BN{a b:List Nd}(h:Nd.Alls (Rg hi) a)(hr:Nd.Alls (Rg hi) b):Nd.Alls (Rg hi) (a++b):=Nd.Alls_mem.2 fun k hk=>by
  rcases List.mem_append.1 hk with hk | hk
  · exact Nd.Alls_mem.1 h k hk
  · exact Nd.Alls_mem.1 hr k hk
theorem NH{n:Nd}(h:n.All (Rg hi)):0≤n.at_∧n.at_≤hi:=h.self
theorem Aqa{n:Nd}(h:n.All (Rg hi)):Nd.Alls (Rg hi) n.kids:=Nd.Alls_mem.2 h.kids
theorem Arb{n:Nd}{a:Int}(h:n.All (Rg hi))(ha:0≤a∧a≤hi):(Ao3 n a).All (Rg hi):=by
  cases n
  exact Nd.All_iff.2 ⟨ha,h.kids⟩
end
def atN(T:List Tk)(i:Nat):Int:=(ZN T ⟨i,0,0⟩).At
structure Aoz(T:List Tk)(hi:Int):Prop where
  rg:∀ t∈T,0≤t.At∧t.At≤hi
  hi:0≤hi
  up:∀ (i j:Nat) (a b:Tk),i≤j→T[i]? = some a→T[j]? = some b→a.At≤b.At
section
variable{T:List Tk}{hi:Int}(H:Aoz T hi)
include H
theorem AtP:0≤Aeb T∧Aeb T≤hi:=by
  unfold Aeb
  cases h:T.getLast? with
  | none=>exact⟨Int.le_refl _,H.hi⟩
  | some t=>exact H.rg t (List.mem_of_getLast? h)
theorem AV(s:PS):0≤(ZN T s).At∧(ZN T s).At≤hi:=by
  unfold ZN
  cases h:T[s.i]? with
  | none=>exact AtP H
  | some t=>exact H.rg t (List.mem_of_getElem? h)
theorem HJ{i j:Nat}(h:i≤j):atN T i≤atN T j:=by
  unfold atN ZN
  dsimp only
  cases hi:T[i]? with
  | none=>
    have:T[j]? = none:=by rw[List.getElem?_eq_none_iff] at hi ⊢;omega
    rw[this];exact Int.le_refl _
  | some a=>
    cases hj:T[j]? with
    | some b=>exact H.up i j a b h hi hj
    | none=>
      dsimp only
      unfold Aeb
      have hne:T≠[]:=by intro he;rw[he] at hi;simp at hi
      rw[List.getLast?_eq_some_getLast hne]
      dsimp only
      have hlt:=(List.getElem?_eq_some_iff.1 hi).1
      have hl:T[T.length - 1]? = some (T.getLast hne):=by
        rw[← List.getLast?_eq_getElem?,List.getLast?_eq_some_getLast hne]
      exact H.up i (T.length - 1) a _ (by omega) hi hl
end
section
variable{T:List Tk}{s:PS}{i0:Nat}{k:Int}{t:ByteArray}
theorem Aby(h:i0≤s.i):i0≤s.inc.i:=Nat.le_succ_of_le h
theorem Ajq{a b:Int}(h:i0≤s.i):i0≤(DN s a b).i:=by unfold DN;split<;>exact h
theorem SK(h:i0≤s.i):i0≤(DH T s).i:=Ajq h
theorem VH(h:i0≤s.i):i0≤(JH T k t s).i:=by
  unfold JH;split
  · exact Aby h
  · exact h
theorem NK(h:i0≤s.i):i0≤(GF T k t s).i:=by
  unfold GF;split
  · exact Aby h
  · exact SK h
theorem AeQ(h:i0≤s.i):i0≤(ZZ T k s).i:=by
  unfold ZZ;split
  · exact Aby h
  · exact SK h
theorem Af3(h:i0≤s.i):i0≤(AZ T s).i:=by
  unfold AZ;split
  · exact Aby h
  · exact SK h
theorem Auc:∀ {l:List Nd} {s:PS},i0≤s.i→i0≤(OV l s).i
  | [],s,h=>h
  | n :: l,s,h=>by
    unfold OV
    refine Auc ?_
    split
    · exact h
    · exact Ajq h
theorem Aud{b:Bool}{x y:PS}(hx:i0≤x.i)(hy:i0≤y.i):i0≤(if b then x else y).i:=by cases b<;>assumption
end
def E1(hi:Int)(i0:Nat)(o:Option (Nd×PS)):Prop:=∀ n s',o=some (n,s')→i0≤s'.i∧n.All (Rg hi)∧n.dec = []
def EL(hi:Int)(i0:Nat)(o:Option (List Nd×PS)):Prop:=∀ l s',o=some (l,s')→i0≤s'.i∧Nd.Alls (Rg hi) l∧Nd.decs l = []
section
variable{hi:Int}{i0 j:Nat}{α:Type}
theorem FD{n:Nd}{s:PS}(h:i0≤s.i)(h1:n.All (Rg hi))(h2:n.dec = []):E1 hi i0 (some (n,s)):=fun _ _ he=>by cases he;exact⟨h,h1,h2⟩
theorem Ah3{n:List Nd}{s:PS}(h:i0≤s.i)(h1:Nd.Alls (Rg hi) n)(h2:Nd.decs n = []):EL hi i0 (some (n,s)):=fun _ _ he=>by cases he;exact⟨h,h1,h2⟩
theorem Auz:E1 hi i0 none:=nofun
theorem WD{c:Prop}[Decidable c]{a b:Option (Nd×PS)}(ha:E1 hi i0 a)(hb:E1 hi i0 b):E1 hi i0 (if c then a else b):=by split<;>assumption
theorem Al8{c:Prop}[Decidable c]{a b:Option (List Nd×PS)}(ha:EL hi i0 a)(hb:EL hi i0 b):EL hi i0 (if c then a else b):=by split<;>assumption
theorem NJ{o:Option (Nd×PS)}(h:E1 hi j o)(hj:i0≤j):E1 hi i0 o:=fun n s' he=>⟨Nat.le_trans hj (h n s' he).1,(h n s' he).2⟩
theorem Af7{o:Option (List Nd×PS)}(h:EL hi j o)(hj:i0≤j):EL hi i0 o:=fun n s' he=>⟨Nat.le_trans hj (h n s' he).1,(h n s' he).2⟩
theorem MG{o:Option (Nd×PS)}{f:Nd×PS→Option (Nd×PS)}(h:E1 hi j o)(hj:i0≤j)(c:∀ n s',i0≤s'.i→n.All (Rg hi)→n.dec = []→E1 hi i0 (f (n,s'))):E1 hi i0 (o.bind f):=fun n s' he=>by
  obtain⟨⟨m,s1⟩,h1,h2⟩:=Option.bind_eq_some_iff.1 he
  obtain⟨q1,q2,q3⟩:=h m s1 h1
  exact c m s1 (Nat.le_trans hj q1) q2 q3 n s' h2
theorem Aaz{o:Option (Nd×PS)}{f:Nd×PS→Option (List Nd×PS)}(h:E1 hi j o)(hj:i0≤j)(c:∀ n s',i0≤s'.i→n.All (Rg hi)→n.dec = []→EL hi i0 (f (n,s'))):EL hi i0 (o.bind f):=fun n s' he=>by
  obtain⟨⟨m,s1⟩,h1,h2⟩:=Option.bind_eq_some_iff.1 he
  obtain⟨q1,q2,q3⟩:=h m s1 h1
  exact c m s1 (Nat.le_trans hj q1) q2 q3 n s' h2
theorem ST{o:Option (List Nd×PS)}{f:List Nd×PS→Option (Nd×PS)}(h:EL hi j o)(hj:i0≤j)(c:∀ n s',i0≤s'.i→Nd.Alls (Rg hi) n→Nd.decs n = []→E1 hi i0 (f (n,s'))):E1 hi i0 (o.bind f):=fun n s' he=>by
  obtain⟨⟨m,s1⟩,h1,h2⟩:=Option.bind_eq_some_iff.1 he
  obtain⟨q1,q2,q3⟩:=h m s1 h1
  exact c m s1 (Nat.le_trans hj q1) q2 q3 n s' h2
end
def Srt(l:List Int)(lo hi:Int):Prop:=l.Pairwise (· ≤ ·)∧∀ x∈l,lo≤x∧x≤hi
theorem AjA{lo hi:Int}:Srt [] lo hi:=⟨.nil,nofun⟩
theorem Srt.wide{l:List Int}{lo hi lo' hi':Int}(h:Srt l lo hi)(h1:lo'≤lo)(h2:hi≤hi'):Srt l lo' hi':=⟨h.1,fun x hx=>by have:=h.2 x hx;omega⟩
theorem Srt.app{a b:List Int}{lo m m' hi:Int}(ha:Srt a lo m)(hb:Srt b m' hi)(h:m≤m')(h0:lo≤m')(h1:m≤hi):Srt (a++b) lo hi:=by
  refine⟨List.pairwise_append.2 ⟨ha.1,hb.1,fun x hx y hy => ?_⟩,fun x hx => ?_⟩
  · have:=ha.2 x hx;have:=hb.2 y hy;omega
  · rcases List.mem_append.1 hx with hx | hx
    · have:=ha.2 x hx;omega
    · have:=hb.2 x hx;omega
def S1(T:List Tk)(hi:Int)(i0:Nat)(o:Option (Nd×PS)):Prop:=∀ n s',o=some (n,s')→i0≤s'.i∧n.All (Rg hi)∧Srt n.dec (atN T i0) (atN T s'.i)
def SL(T:List Tk)(hi lo:Int)(i0:Nat)(o:Option (List Nd×PS)):Prop:=∀ l s',o=some (l,s')→i0≤s'.i∧Nd.Alls (Rg hi) l∧Srt (Nd.decs l) lo (atN T s'.i)
def NL(T:List Tk)(hi lo:Int)(i0:Nat)(o:Option (List Nd×PS)):Prop:=∀ l s',o=some (l,s')→i0≤s'.i∧Nd.Alls (Rg hi) l∧Srt (l.map Nd.at_) lo (atN T s'.i)
structure QL(T:List Tk)(hi:Int)(R:Lv):Prop where
  expr:∀  (s:PS),E1 hi s.i (R.expr  s)
  or_:∀  (s:PS),E1 hi s.i (R.or_  s)
  orL:∀ (e:Nd) (s:PS),e.All (Rg hi)→e.dec = []→E1 hi s.i (R.orL e s)
  and_:∀  (s:PS),E1 hi s.i (R.and_  s)
  andL:∀ (e:Nd) (s:PS),e.All (Rg hi)→e.dec = []→E1 hi s.i (R.andL e s)
  not_:∀  (s:PS),E1 hi s.i (R.not_  s)
  compare:∀  (s:PS),E1 hi s.i (R.compare  s)
  row:∀ (k:Nat) (s:PS),E1 hi s.i (R.row k s)
  rowL:∀ (k:Nat) (e:Nd) (s:PS),e.All (Rg hi)→e.dec = []→E1 hi s.i (R.rowL k e s)
  minus:∀  (s:PS),E1 hi s.i (R.minus  s)
  postfix_:∀  (s:PS),E1 hi s.i (R.postfix_  s)
  postL:∀ (e:Nd) (s:PS),e.All (Rg hi)→e.dec = []→E1 hi s.i (R.postL e s)
  atom:∀  (s:PS),E1 hi s.i (R.atom  s)
  round:∀ (a:Int) (s:PS),(0≤a∧a≤hi)→E1 hi s.i (R.round a s)
  square:∀ (a:Int) (s:PS),(0≤a∧a≤hi)→E1 hi s.i (R.square a s)
  curly:∀ (a:Int) (s:PS),(0≤a∧a≤hi)→E1 hi s.i (R.curly a s)
  item:∀  (s:PS),E1 hi s.i (R.item  s)
  exprs:∀  (s:PS),E1 hi s.i (R.exprs  s)
  targets:∀  (s:PS),E1 hi s.i (R.targets  s)
  assigned:∀ (e:Nd) (s:PS),e.All (Rg hi)→e.dec = []→E1 hi s.i (R.assigned e s)
  more:∀ (l:List Nd)  (s:PS),Nd.Alls (Rg hi) l→Nd.decs l = []→EL hi s.i (R.more l  s)
  comp:∀ (l:List Nd)  (s:PS),Nd.Alls (Rg hi) l→Nd.decs l = []→EL hi s.i (R.comp l  s)
  compL:∀ (l:List Nd)  (s:PS),Nd.Alls (Rg hi) l→Nd.decs l = []→EL hi s.i (R.compL l  s)
  items:∀ (l:List Nd)  (s:PS),Nd.Alls (Rg hi) l→Nd.decs l = []→EL hi s.i (R.items l  s)
  args:∀ (l:List Nd) (k:Int) (s:PS),Nd.Alls (Rg hi) l→Nd.decs l = []→EL hi s.i (R.args l k s)
  targL:∀ (l:List Nd)  (s:PS),Nd.Alls (Rg hi) l→Nd.decs l = []→EL hi s.i (R.targL l  s)
  params:∀ (l:List Nd) (b:Bool) (s:PS),Nd.Alls (Rg hi) l→Nd.decs l = []→EL hi s.i (R.params l b s)
  names:∀ (l:List Nd) (s:PS) (lo:Int),Nd.Alls (Rg hi) l→lo≤atN T s.i→Srt (l.map Nd.at_) lo (atN T s.i)→NL T hi lo s.i (R.names l s)
  simple:∀ (s:PS),S1 T hi s.i (R.simple s)
  block:∀ (s:PS),S1 T hi s.i (R.block s)
  blockL:∀ (l:List Nd) (s:PS) (lo:Int),Nd.Alls (Rg hi) l→lo≤atN T s.i→Srt (Nd.decs l) lo (atN T s.i)→SL T hi lo s.i (R.blockL l s)
  choice:∀ (a:Int) (s:PS),(0≤a∧a≤hi)→S1 T hi s.i (R.choice a s)
  caught:∀ (l:List Nd) (b:Bool) (s:PS) (lo:Int),Nd.Alls (Rg hi) l→lo≤atN T s.i→Srt (Nd.decs l) lo (atN T s.i)→SL T hi lo s.i (R.caught l b s)
  stmt:∀ (s:PS),S1 T hi s.i (R.stmt s)
  parseL:∀ (l:List Nd) (s:PS) (lo:Int),Nd.Alls (Rg hi) l→lo≤atN T s.i→Srt (Nd.decs l) lo (atN T s.i)→SL T hi lo s.i (R.parseL l s)
section
variable{T:List Tk}{hi:Int}{R:Lv}{num:ByteArray→(Bool×List Int)×Bool}(H:Aoz T hi)(G:QL T hi R)
include H G
theorem Avg  (s:PS)  : E1 hi s.i (Akj T R  s):=by
  unfold Akj
  repeat' first
    | (with_reducible refine FD ?_ ?_ ?_)
    | (with_reducible refine WD ?_ ?_)
    | (with_reducible refine MG (G.expr _ ) ?_ (fun n s1 h1 h2 h3 => ?_))
    | (with_reducible refine MG (G.or_ _ ) ?_ (fun n s1 h1 h2 h3 => ?_))
    | (with_reducible refine AH rfl ?_)
    | (with_reducible refine MM ?_ ?_)
    | (with_reducible exact QY)
    | (with_reducible refine ZV ?_ ?_)
    | (with_reducible refine QE ?_ ?_)
    | (with_reducible exact QU)
    | (with_reducible exact NH (by assumption))
    | (with_reducible refine VH ?_)
    | (with_reducible refine NK ?_)
    | (with_reducible exact Nat.le_refl _)
    | (with_reducible assumption)
theorem AvS  (s:PS)  : E1 hi s.i (orF R  s):=by
  unfold orF
  repeat' first
    | (with_reducible refine NJ (G.orL _ _ ?_ ?_ ) ?_)
    | (with_reducible refine MG (G.and_ _ ) ?_ (fun n s1 h1 h2 h3 => ?_))
    | (with_reducible exact Nat.le_refl _)
    | (with_reducible assumption)
theorem AvR(e:Nd)(s:PS)(g0:e.All (Rg hi))(g1:e.dec = []):E1 hi s.i (AoX T R e s):=by
  unfold AoX
  repeat' first
    | (with_reducible refine FD ?_ ?_ ?_)
    | (with_reducible refine WD ?_ ?_)
    | (with_reducible refine NJ (G.orL _ _ ?_ ?_ ) ?_)
    | (with_reducible refine MG (G.and_ _ ) ?_ (fun n s1 h1 h2 h3 => ?_))
    | (with_reducible refine AH rfl ?_)
    | (with_reducible refine MM ?_ ?_)
    | (with_reducible exact QY)
    | (with_reducible refine ZV ?_ ?_)
    | (with_reducible refine QE ?_ ?_)
    | (with_reducible exact QU)
    | (with_reducible exact NH (by assumption))
    | (with_reducible refine VH ?_)
    | (with_reducible exact Nat.le_refl _)
    | (with_reducible assumption)
theorem Avc  (s:PS)  : E1 hi s.i (AoB R  s):=by
  unfold AoB
  repeat' first
    | (with_reducible refine NJ (G.andL _ _ ?_ ?_ ) ?_)
    | (with_reducible refine MG (G.not_ _ ) ?_ (fun n s1 h1 h2 h3 => ?_))
    | (with_reducible exact Nat.le_refl _)
    | (with_reducible assumption)
theorem Avb(e:Nd)(s:PS)(g0:e.All (Rg hi))(g1:e.dec = []):E1 hi s.i (Aj4 T R e s):=by
  unfold Aj4
  repeat' first
    | (with_reducible refine FD ?_ ?_ ?_)
    | (with_reducible refine WD ?_ ?_)
    | (with_reducible refine NJ (G.andL _ _ ?_ ?_ ) ?_)
    | (with_reducible refine MG (G.not_ _ ) ?_ (fun n s1 h1 h2 h3 => ?_))
    | (with_reducible refine AH rfl ?_)
    | (with_reducible refine MM ?_ ?_)
    | (with_reducible exact QY)
    | (with_reducible refine ZV ?_ ?_)
    | (with_reducible refine QE ?_ ?_)
    | (with_reducible exact QU)
    | (with_reducible exact NH (by assumption))
    | (with_reducible refine VH ?_)
    | (with_reducible exact Nat.le_refl _)
    | (with_reducible assumption)
theorem Avj  (s:PS)  : E1 hi s.i (AoV T R  s):=by
  unfold AoV
  repeat' first
    | (with_reducible refine FD ?_ ?_ ?_)
    | (with_reducible refine WD ?_ ?_)
    | (with_reducible refine MG (G.not_ _ ) ?_ (fun n s1 h1 h2 h3 => ?_))
    | (with_reducible refine NJ (G.compare _ ) ?_)
    | (with_reducible refine AH rfl ?_)
    | (with_reducible refine MM ?_ ?_)
    | (with_reducible exact QY)
    | (with_reducible refine ZV ?_ ?_)
    | (with_reducible refine QE ?_ ?_)
    | (with_reducible exact QU)
    | (with_reducible exact AV H _)
    | (with_reducible refine VH ?_)
    | (with_reducible exact Nat.le_refl _)
    | (with_reducible assumption)
theorem AqL  (s:PS)  : E1 hi s.i (WC T R  s):=by
  unfold WC SH
  repeat' first
    | (with_reducible refine FD ?_ ?_ ?_)
    | (with_reducible refine WD ?_ ?_)
    | (with_reducible refine MG (G.row _ _ ) ?_ (fun n s1 h1 h2 h3 => ?_))
    | (with_reducible refine AH rfl ?_)
    | (with_reducible refine MM ?_ ?_)
    | (with_reducible exact QY)
    | (with_reducible refine ZV ?_ ?_)
    | (with_reducible refine QE ?_ ?_)
    | (with_reducible exact QU)
    | (with_reducible exact NH (by assumption))
    | (with_reducible refine VH ?_)
    | (with_reducible refine NK ?_)
    | (with_reducible refine Aby ?_)
    | (with_reducible exact Nat.le_refl _)
    | (with_reducible assumption)
theorem AvT(k:Nat)(s:PS)  : E1 hi s.i (Asm R k s):=by
  cases k with
  | zero=>exact G.minus s
  | succ k=>exact MG (G.row _ _) (Nat.le_refl _) fun n s1 h1 h2 h3=>NJ (G.rowL _ _ _ h2 h3) h1
theorem Avk(k:Nat)(e:Nd)(s:PS)(g0:e.All (Rg hi))(g1:e.dec = []):E1 hi s.i (AkS T R k e s):=by
  unfold AkS
  repeat' first
    | (with_reducible refine FD ?_ ?_ ?_)
    | (with_reducible refine WD ?_ ?_)
    | (with_reducible refine MG (G.row _ _ ) ?_ (fun n s1 h1 h2 h3 => ?_))
    | (with_reducible refine NJ (G.rowL _ _ _ ?_ ?_ ) ?_)
    | (with_reducible refine AH rfl ?_)
    | (with_reducible refine MM ?_ ?_)
    | (with_reducible exact QY)
    | (with_reducible refine ZV ?_ ?_)
    | (with_reducible refine QE ?_ ?_)
    | (with_reducible exact QU)
    | (with_reducible exact NH (by assumption))
    | (with_reducible refine Aby ?_)
    | (with_reducible exact Nat.le_refl _)
    | (with_reducible assumption)
theorem AtJ  (s:PS)  : E1 hi s.i (Agc T R  s):=by
  unfold Agc
  repeat' first
    | (with_reducible refine FD ?_ ?_ ?_)
    | (with_reducible refine WD ?_ ?_)
    | (with_reducible refine MG (G.minus _ ) ?_ (fun n s1 h1 h2 h3 => ?_))
    | (with_reducible refine NJ (G.postfix_ _ ) ?_)
    | (with_reducible refine AH rfl ?_)
    | (with_reducible refine MM ?_ ?_)
    | (with_reducible exact QY)
    | (with_reducible refine ZV ?_ ?_)
    | (with_reducible refine QE ?_ ?_)
    | (with_reducible exact QU)
    | (with_reducible exact AV H _)
    | (with_reducible refine VH ?_)
    | (with_reducible exact Nat.le_refl _)
    | (with_reducible assumption)
theorem Ao2  (s:PS)  : E1 hi s.i (WN R  s):=by
  unfold WN
  repeat' first
    | (with_reducible refine NJ (G.postL _ _ ?_ ?_ ) ?_)
    | (with_reducible refine MG (G.atom _ ) ?_ (fun n s1 h1 h2 h3 => ?_))
    | (with_reducible exact Nat.le_refl _)
    | (with_reducible assumption)
theorem AtL(e:Nd)(s:PS)(g0:e.All (Rg hi))(g1:e.dec = []):E1 hi s.i (Agi T R e s):=by
  unfold Agi
  repeat' first
    | (with_reducible refine FD ?_ ?_ ?_)
    | (with_reducible refine WD ?_ ?_)
    | (with_reducible refine NJ (G.postL _ _ ?_ ?_ ) ?_)
    | (with_reducible refine MG (G.exprs _ ) ?_ (fun n s1 h1 h2 h3 => ?_))
    | (with_reducible refine ST (G.args _ _ _ ?_ ?_) ?_ (fun n s1 h1 h2 h3 => ?_))
    | (with_reducible refine AH rfl ?_)
    | (with_reducible refine MM ?_ ?_)
    | (with_reducible exact QY)
    | (with_reducible refine ZV ?_ ?_)
    | (with_reducible refine QE ?_ ?_)
    | (with_reducible exact QU)
    | (with_reducible exact NH (by assumption))
    | (with_reducible refine VH ?_)
    | (with_reducible refine NK ?_)
    | (with_reducible refine Af3 ?_)
    | (with_reducible exact Nat.le_refl _)
    | (with_reducible assumption)
theorem Ave  (s:PS)  : E1 hi s.i (Aj8 num T R  s):=by
  unfold Aj8
  repeat' first
    | (with_reducible refine FD ?_ ?_ ?_)
    | (with_reducible refine WD ?_ ?_)
    | (with_reducible refine NJ (G.round _ _ ?_ ) ?_)
    | (with_reducible refine NJ (G.square _ _ ?_ ) ?_)
    | (with_reducible refine NJ (G.curly _ _ ?_ ) ?_)
    | (with_reducible refine AH rfl ?_)
    | (with_reducible refine Av4 rfl ?_)
    | (with_reducible exact QY)
    | (with_reducible refine ZV ?_ ?_)
    | (with_reducible refine Aum ?_ ?_)
    | (with_reducible exact QU)
    | (with_reducible exact AV H _)
    | (with_reducible exact⟨Int.le_refl _,H.hi⟩)
    | (with_reducible refine Aby ?_)
    | (with_reducible refine SK ?_)
    | (with_reducible exact Nat.le_refl _)
theorem AtM(a:Int)(s:PS)(g0:(0≤a∧a≤hi)):E1 hi s.i (Agk T R a s):=by
  unfold Agk
  repeat' first
    | (with_reducible refine FD ?_ ?_ ?_)
    | (with_reducible refine WD ?_ ?_)
    | (with_reducible refine MG (G.expr _ ) ?_ (fun n s1 h1 h2 h3 => ?_))
    | (with_reducible refine ST (G.more _ _ ?_ ?_) ?_ (fun n s1 h1 h2 h3 => ?_))
    | (with_reducible refine AH rfl ?_)
    | (with_reducible refine MM ?_ ?_)
    | (with_reducible exact QY)
    | (with_reducible refine ZV ?_ ?_)
    | (with_reducible refine QE ?_ ?_)
    | (with_reducible exact QU)
    | (with_reducible refine VH ?_)
    | (with_reducible refine NK ?_)
    | (with_reducible exact Nat.le_refl _)
    | (with_reducible assumption)
theorem Ash(a:Int)(s:PS)(g0:(0≤a∧a≤hi)):E1 hi s.i (AcJ T R a s):=by
  unfold AcJ
  repeat' first
    | (with_reducible refine FD ?_ ?_ ?_)
    | (with_reducible refine WD ?_ ?_)
    | (with_reducible refine MG (G.expr _ ) ?_ (fun n s1 h1 h2 h3 => ?_))
    | (with_reducible refine ST (G.more _ _ ?_ ?_) ?_ (fun n s1 h1 h2 h3 => ?_))
    | (with_reducible refine ST (G.comp _ _ ?_ ?_) ?_ (fun n s1 h1 h2 h3 => ?_))
    | (with_reducible refine AH rfl ?_)
    | (with_reducible refine MM ?_ ?_)
    | (with_reducible exact QY)
    | (with_reducible refine ZV ?_ ?_)
    | (with_reducible refine QE ?_ ?_)
    | (with_reducible exact QU)
    | (with_reducible refine VH ?_)
    | (with_reducible refine NK ?_)
    | (with_reducible exact Nat.le_refl _)
    | (with_reducible assumption)
theorem AtG(a:Int)(s:PS)(g0:(0≤a∧a≤hi)):E1 hi s.i (AfZ T R a s):=by
  unfold AfZ
  repeat' first
    | (with_reducible refine FD ?_ ?_ ?_)
    | (with_reducible refine WD ?_ ?_)
    | (with_reducible refine MG (G.expr _ ) ?_ (fun n s1 h1 h2 h3 => ?_))
    | (with_reducible refine MG (G.item _ ) ?_ (fun n s1 h1 h2 h3 => ?_))
    | (with_reducible refine ST (G.more _ _ ?_ ?_) ?_ (fun n s1 h1 h2 h3 => ?_))
    | (with_reducible refine ST (G.comp _ _ ?_ ?_) ?_ (fun n s1 h1 h2 h3 => ?_))
    | (with_reducible refine ST (G.items _ _ ?_ ?_) ?_ (fun n s1 h1 h2 h3 => ?_))
    | (with_reducible refine AH rfl ?_)
    | (with_reducible refine MM ?_ ?_)
    | (with_reducible exact QY)
    | (with_reducible refine ZV ?_ ?_)
    | (with_reducible refine QE ?_ ?_)
    | (with_reducible exact QU)
    | (with_reducible exact NH (by assumption))
    | (with_reducible refine VH ?_)
    | (with_reducible refine NK ?_)
    | (with_reducible exact Nat.le_refl _)
    | (with_reducible assumption)
theorem Avh  (s:PS)  : E1 hi s.i (Aku T R  s):=by
  unfold Aku
  repeat' first
    | (with_reducible refine FD ?_ ?_ ?_)
    | (with_reducible refine WD ?_ ?_)
    | (with_reducible refine MG (G.expr _ ) ?_ (fun n s1 h1 h2 h3 => ?_))
    | (with_reducible refine AH rfl ?_)
    | (with_reducible refine MM ?_ ?_)
    | (with_reducible exact QY)
    | (with_reducible refine ZV ?_ ?_)
    | (with_reducible refine QE ?_ ?_)
    | (with_reducible exact QU)
    | (with_reducible exact AV H _)
    | (with_reducible exact NH (by assumption))
    | (with_reducible refine VH ?_)
    | (with_reducible refine NK ?_)
    | (with_reducible exact Nat.le_refl _)
    | (with_reducible assumption)
theorem AtH  (s:PS)  : E1 hi s.i (Af0 T R  s):=by
  unfold Af0
  repeat' first
    | (with_reducible refine FD ?_ ?_ ?_)
    | (with_reducible refine WD ?_ ?_)
    | (with_reducible refine MG (G.expr _ ) ?_ (fun n s1 h1 h2 h3 => ?_))
    | (with_reducible refine ST (G.more _ _ ?_ ?_) ?_ (fun n s1 h1 h2 h3 => ?_))
    | (with_reducible refine AH rfl ?_)
    | (with_reducible refine MM ?_ ?_)
    | (with_reducible exact QY)
    | (with_reducible refine ZV ?_ ?_)
    | (with_reducible refine QE ?_ ?_)
    | (with_reducible exact QU)
    | (with_reducible exact NH (by assumption))
    | (with_reducible exact Nat.le_refl _)
    | (with_reducible assumption)
theorem AqM  (s:PS)  : E1 hi s.i (Aab R  s):=by
  unfold Aab
  refine MG (G.postfix_ _) (Nat.le_refl _) fun n s1 h1 h2 h3 => ?_
  refine ST (G.targL _ _ (QE h2 QU) (by rw[YC,QY,h3];rfl)) h1 fun l s2 k1 k2 k3 => ?_
  dsimp only
  split
  · exact Auz
  · rename_i m r
    have hm:=Nd.Alls_mem.1 k2 m (by simp)
    rw[YC,List.append_eq_nil_iff] at k3
    refine FD (Auc k1) ?_ ?_
    · split
      · exact hm
      · exact ZV (NH hm) k2
    · split
      · exact k3.1
      · rw[IE (by rfl),YC,k3.1,k3.2];rfl
theorem Ao1(e:Nd)(s:PS)(g0:e.All (Rg hi))(g1:e.dec = []):E1 hi s.i (NI T R e s):=by
  unfold NI
  repeat' first
    | (with_reducible refine FD ?_ ?_ ?_)
    | (with_reducible refine WD ?_ ?_)
    | (with_reducible refine MG (G.exprs _ ) ?_ (fun n s1 h1 h2 h3 => ?_))
    | (with_reducible refine AH rfl ?_)
    | (with_reducible refine MM ?_ ?_)
    | (with_reducible exact QY)
    | (with_reducible exact Ars (by assumption))
    | (with_reducible refine ZV ?_ ?_)
    | (with_reducible refine QE ?_ ?_)
    | (with_reducible exact QU)
    | (with_reducible exact Aqa (by assumption))
    | (with_reducible exact NH (by assumption))
    | (with_reducible refine Aby ?_)
    | (with_reducible refine Ajq ?_)
    | (with_reducible exact Nat.le_refl _)
    | (with_reducible assumption)
theorem Avi(l:List Nd)  (s:PS) (g0:Nd.Alls (Rg hi) l) (g1:Nd.decs l = []):EL hi s.i (AkC num T R l  s):=by
  unfold AkC
  repeat' first
    | (with_reducible refine Ah3 ?_ ?_ ?_)
    | (with_reducible refine Al8 ?_ ?_)
    | (with_reducible refine Aaz (G.expr _ ) ?_ (fun n s1 h1 h2 h3 => ?_))
    | (with_reducible refine Af7 (G.more _ _ ?_ ?_) ?_)
    | (with_reducible refine MM ?_ ?_)
    | (with_reducible exact QY)
    | (with_reducible refine AkE ?_ ?_)
    | (with_reducible refine QE ?_ ?_)
    | (with_reducible exact QU)
    | (with_reducible refine BN ?_ ?_)
    | (with_reducible refine VH ?_)
    | (with_reducible exact Nat.le_refl _)
    | (with_reducible assumption)
theorem Avf(l:List Nd)  (s:PS) (g0:Nd.Alls (Rg hi) l) (g1:Nd.decs l = []):EL hi s.i (Akb T R l  s):=by
  unfold Akb
  repeat' first
    | (with_reducible refine Aaz (G.or_ _ ) ?_ (fun n s1 h1 h2 h3 => ?_))
    | (with_reducible refine Aaz (G.targets _ ) ?_ (fun n s1 h1 h2 h3 => ?_))
    | (with_reducible refine Af7 (G.compL _ _ ?_ ?_) ?_)
    | (with_reducible refine MM ?_ ?_)
    | (with_reducible exact QY)
    | (with_reducible refine AkE ?_ ?_)
    | (with_reducible refine QE ?_ ?_)
    | (with_reducible exact QU)
    | (with_reducible refine BN ?_ ?_)
    | (with_reducible refine NK ?_)
    | (with_reducible exact Nat.le_refl _)
    | (with_reducible assumption)
theorem AtF(l:List Nd)  (s:PS) (g0:Nd.Alls (Rg hi) l) (g1:Nd.decs l = []):EL hi s.i (AfY T R l  s):=by
  unfold AfY
  repeat' first
    | (with_reducible refine Ah3 ?_ ?_ ?_)
    | (with_reducible refine Al8 ?_ ?_)
    | (with_reducible refine Aaz (G.or_ _ ) ?_ (fun n s1 h1 h2 h3 => ?_))
    | (with_reducible refine Af7 (G.compL _ _ ?_ ?_) ?_)
    | (with_reducible refine MM ?_ ?_)
    | (with_reducible exact QY)
    | (with_reducible refine AkE ?_ ?_)
    | (with_reducible refine QE ?_ ?_)
    | (with_reducible exact QU)
    | (with_reducible refine BN ?_ ?_)
    | (with_reducible refine VH ?_)
    | (with_reducible exact Nat.le_refl _)
    | (with_reducible assumption)
theorem AtI(l:List Nd)  (s:PS) (g0:Nd.Alls (Rg hi) l) (g1:Nd.decs l = []):EL hi s.i (Af6 num T R l  s):=by
  unfold Af6
  repeat' first
    | (with_reducible refine Ah3 ?_ ?_ ?_)
    | (with_reducible refine Al8 ?_ ?_)
    | (with_reducible refine Aaz (G.item _ ) ?_ (fun n s1 h1 h2 h3 => ?_))
    | (with_reducible refine Af7 (G.items _ _ ?_ ?_) ?_)
    | (with_reducible refine MM ?_ ?_)
    | (with_reducible exact QY)
    | (with_reducible refine AkE ?_ ?_)
    | (with_reducible refine QE ?_ ?_)
    | (with_reducible exact QU)
    | (with_reducible refine BN ?_ ?_)
    | (with_reducible refine VH ?_)
    | (with_reducible exact Nat.le_refl _)
    | (with_reducible assumption)
theorem Avd(l:List Nd)(k:Int)(s:PS)(g0:Nd.Alls (Rg hi) l)(g1:Nd.decs l = []):EL hi s.i (Aj7 num T R l k s):=by
  unfold Aj7 NU
  repeat' first
    | (with_reducible refine Ah3 ?_ ?_ ?_)
    | (with_reducible refine Al8 ?_ ?_)
    | (with_reducible refine Aaz (G.expr _ ) ?_ (fun n s1 h1 h2 h3 => ?_))
    | (with_reducible refine Af7 (G.args _ _ _ ?_ ?_) ?_)
    | (with_reducible refine AH rfl ?_)
    | (with_reducible refine MM ?_ ?_)
    | (with_reducible exact QY)
    | (with_reducible refine AkE ?_ ?_)
    | (with_reducible refine ZV ?_ ?_)
    | (with_reducible refine QE ?_ ?_)
    | (with_reducible exact QU)
    | (with_reducible refine BN ?_ ?_)
    | (with_reducible exact AV H _)
    | (with_reducible refine VH ?_)
    | (with_reducible refine Aby ?_)
    | (with_reducible refine SK ?_)
    | (with_reducible exact Nat.le_refl _)
    | (with_reducible assumption)
theorem AtN(l:List Nd)  (s:PS) (g0:Nd.Alls (Rg hi) l) (g1:Nd.decs l = []):EL hi s.i (AcK T R l  s):=by
  unfold AcK
  repeat' first
    | (with_reducible refine Ah3 ?_ ?_ ?_)
    | (with_reducible refine Al8 ?_ ?_)
    | (with_reducible refine Aaz (G.postfix_ _ ) ?_ (fun n s1 h1 h2 h3 => ?_))
    | (with_reducible refine Af7 (G.targL _ _ ?_ ?_) ?_)
    | (with_reducible refine MM ?_ ?_)
    | (with_reducible exact QY)
    | (with_reducible refine AkE ?_ ?_)
    | (with_reducible refine QE ?_ ?_)
    | (with_reducible exact QU)
    | (with_reducible refine BN ?_ ?_)
    | (with_reducible refine VH ?_)
    | (with_reducible exact Nat.le_refl _)
    | (with_reducible assumption)
theorem Asd(l:List Nd)(b:Bool)(s:PS)(g0:Nd.Alls (Rg hi) l)(g1:Nd.decs l = []):EL hi s.i (Acy T R l b s):=by
  unfold Acy TB
  repeat' first
    | (with_reducible refine Ah3 ?_ ?_ ?_)
    | (with_reducible refine Al8 ?_ ?_)
    | (with_reducible refine Aaz (G.expr _ ) ?_ (fun n s1 h1 h2 h3 => ?_))
    | (with_reducible refine Af7 (G.params _ _ _ ?_ ?_) ?_)
    | (with_reducible refine AH rfl ?_)
    | (with_reducible refine MM ?_ ?_)
    | (with_reducible exact QY)
    | (with_reducible refine AkE ?_ ?_)
    | (with_reducible refine ZV ?_ ?_)
    | (with_reducible refine QE ?_ ?_)
    | (with_reducible exact QU)
    | (with_reducible refine BN ?_ ?_)
    | (with_reducible exact AV H _)
    | (with_reducible refine VH ?_)
    | (with_reducible refine Aby ?_)
    | (with_reducible refine Af3 ?_)
    | (with_reducible refine SK ?_)
    | (with_reducible exact Nat.le_refl _)
    | (with_reducible assumption)
end
end Go.Proofs.YtjiagmjfnbljjaaGreatDoor
end
