/- Lemmas for the statement proved in the last of these texts: part 6 of 25. Conditions: none. -/
import Derived.Test.YtjiagmjfnbljjaaGreatDoorGae
import Derived.Test.YtjiagmjfnbljjaaGreatDoorGab
import Derived.ChangeMaps4
set_option linter.unusedSectionVars false
section
namespace Go.Proofs.YtjiagmjfnbljjaaGreatDoor
open Go Go.MapKept
section
variable{κ α:Type}[DecidableEq κ]
def ZJ(l:List (κ×α))(k:κ):Option α:=match l with
  | []=>none
  | p :: l=>if p.1=k then some p.2 else ZJ l k
def CU(l:List (κ×α))(k:κ)(v:α):List (κ×α):=match l with
  | []=>[(k,v)]
  | p :: l=>if p.1=k then(k,v) :: l else p :: CU l k v
def Adr(l:List (κ×α))(k:κ):List (κ×α):=match l with
  | []=>[]
  | p :: l=>if p.1=k then l else p :: Adr l k
structure FC(ek:κ→Value)(ev:α→Value)(es:Array MapEntry)(clock:Nat)(l:List (κ×α)):Prop where
  st:Stamped es clock
  eq:es.toList.map (fun e=>(e.key,e.val))=l.map fun p=>(ek p.1,ev p.2)
variable{ek:κ→Value}{ev:α→Value}{es:Array MapEntry}{clock:Nat}{l:List (κ×α)}
theorem FC.nil(clock:Nat):FC ek ev #[] clock []:=⟨stamped_empty clock,rfl⟩
theorem FC.len(h:FC ek ev es clock l):es.size=l.length:=by
  have:=congrArg List.length h.eq
  simpa using this
theorem FC.get(h:FC ek ev es clock l){j:Nat}{e:MapEntry}(he:es.toList[j]? = some e):∃ p,l[j]? = some p∧e.key=ek p.1∧e.val=ev p.2:=by
  have h1:(es.toList.map (fun e=>(e.key,e.val)))[j]? = some (e.key,e.val):=by rw[List.getElem?_map,he];rfl
  rw[h.eq,List.getElem?_map] at h1
  cases hl:l[j]? with
  | none=>rw[hl] at h1;cases h1
  | some p=>
    rw[hl] at h1
    simp only[Option.map_some,Option.some.injEq,Prod.mk.injEq] at h1
    exact⟨p,rfl,h1.1.symm,h1.2.symm⟩
theorem FC.has(h:FC ek ev es clock l){p:κ×α}(hp:p∈l):∃ e∈es.toList,e.key=ek p.1:=by
  have:(ek p.1,ev p.2)∈es.toList.map (fun e=>(e.key,e.val)):=by rw[h.eq];exact List.mem_map.2 ⟨p,hp,rfl⟩
  obtain⟨e,he,hq⟩:=List.mem_map.1 this
  simp only[Prod.mk.injEq] at hq
  exact⟨e,he,hq.1⟩
theorem FC.keys(h:FC ek ev es clock l){d:TypeDesc}(hd:∀ k,IsKey d (ek k)):∀ x∈es.toList,IsKey d x.key:=by
  intro x hx
  obtain⟨j,hj⟩:=List.mem_iff_getElem?.1 hx
  obtain⟨p,_,h2,_⟩:=h.get hj
  rw[h2];exact hd _
theorem FC.nodup(h:FC ek ev es clock l):(l.map (·.1)).Nodup:=by
  have h3:=h.st.2.2
  have h4:es.toList.map (·.key)=(es.toList.map (fun e=>(e.key,e.val))).map (·.1):=by simp
  rw[h4,h.eq,List.map_map] at h3
  have h5:(l.map (·.1)).map ek=l.map ((fun x=>x.1)∘fun p=>(ek p.1,ev p.2)):=by simp
  rw[← h5] at h3
  exact List.Pairwise.of_map ek (fun a b hab he=>hab (by rw[he])) h3
theorem Aqt{k:κ}(h:∀ p∈l,p.1≠k):ZJ l k=none:=by
  induction l with
  | nil=>rfl
  | cons p l ih=>
    unfold ZJ
    rw[if_neg (h p (by simp))]
    exact ih fun q hq=>h q (by simp[hq])
theorem CP{k:κ}:∀ {l:List (κ×α)} {j:Nat} {v:α},(l.map (·.1)).Nodup→l[j]? = some (k,v)→ZJ l k=some v
  | [],j,v,_,h=>by simp at h
  | p :: l,0,v,_,h=>by
    simp only[List.getElem?_cons_zero,Option.some.injEq] at h
    subst h
    unfold ZJ
    rw[if_pos rfl]
  | p :: l,j+1,v,hn,h=>by
    simp only[List.map_cons,List.nodup_cons] at hn
    simp only[List.getElem?_cons_succ] at h
    unfold ZJ
    rw[if_neg fun he=>hn.1 (by rw[he];exact List.mem_map.2 ⟨(k,v),List.mem_of_getElem? h,rfl⟩)]
    exact CP hn.2 h
theorem AbG{k:κ}{v:α}(h:∀ p∈l,p.1≠k):CU l k v=l ++ [(k,v)]:=by
  induction l with
  | nil=>rfl
  | cons p l ih=>
    unfold CU
    rw[if_neg (h p (by simp)),ih fun q hq=>h q (by simp[hq])]
    rfl
theorem ApQ{k:κ}{v v':α}:∀ {l:List (κ×α)} {j:Nat},(l.map (·.1)).Nodup→l[j]? = some (k,v)→CU l k v'=l.set j (k,v')
  | [],j,_,h=>by simp at h
  | p :: l,0,_,h=>by
    simp only[List.getElem?_cons_zero,Option.some.injEq] at h
    subst h
    unfold CU
    rw[if_pos rfl]
    rfl
  | p :: l,j+1,hn,h=>by
    simp only[List.map_cons,List.nodup_cons] at hn
    simp only[List.getElem?_cons_succ] at h
    unfold CU
    rw[if_neg fun he=>hn.1 (by rw[he];exact List.mem_map.2 ⟨(k,v),List.mem_of_getElem? h,rfl⟩),ApQ hn.2 h]
    rfl
theorem Aqk{k:κ}(h:∀ p∈l,p.1≠k):Adr l k=l:=by
  induction l with
  | nil=>rfl
  | cons p l ih=>
    unfold Adr
    rw[if_neg (h p (by simp)),ih fun q hq=>h q (by simp[hq])]
theorem Apt{k:κ}{v:α}:∀ {l:List (κ×α)} {j:Nat},(l.map (·.1)).Nodup→l[j]? = some (k,v)→Adr l k=l.eraseIdx j
  | [],j,_,h=>by simp at h
  | p :: l,0,_,h=>by
    simp only[List.getElem?_cons_zero,Option.some.injEq] at h
    subst h
    unfold Adr
    rw[if_pos rfl]
    rfl
  | p :: l,j+1,hn,h=>by
    simp only[List.map_cons,List.nodup_cons] at hn
    simp only[List.getElem?_cons_succ] at h
    unfold Adr
    rw[if_neg fun he=>hn.1 (by rw[he];exact List.mem_map.2 ⟨(k,v),List.mem_of_getElem? h,rfl⟩),Apt hn.2 h]
    rfl
variable{P:Program}{w:World}{t kt et:TypeId}{d:TypeDesc}{b:Nat}
theorem Aex(ht:P.underlying t=some (.map kt et))(hk:P.underlying kt=some d){z:Value}(hz:(zeroValue et).run P w = .ok z w)(hd:∀ k,IsKey d (ek k))(hinj:∀ a b,ek a=ek b→a=b)
    (hb:w.heap[b]? = some (.map es clock)) (hm:FC ek ev es clock l) (k:κ) (c:Bool) :
    (Instr.lookup t (.map (some b)) (ek k) c).run P w = .ok (match ZJ l k with
      | some v=>if c then .tuple #[ev v,.bool true] else ev v
      | none=>if c then .tuple #[z,.bool false] else z) w:=by
  rcases findNow_spec (hd k) es.toList 0 (hm.keys hd) with⟨h1,h2⟩ | ⟨j,e0,h1,h2,h3⟩
  · have:ZJ l k=none:=Aqt fun p hp he=>by
      obtain⟨e,he1,he2⟩:=hm.has hp
      exact h2 e he1 (by rw[he2,he])
    rw[this]
    simp[Instr.lookup,run_underlying ht,MapKept.run_getObj_map hb,run_checkKey hk (hd k),run_findKey hk h1,hz,Result.andThen]
  · obtain⟨p,hp,h4,h5⟩:=hm.get h2
    have hpk:p.1=k:=hinj _ _ (by rw[← h4,h3])
    have:ZJ l k=some p.2:=CP hm.nodup (j:=j) (by rw[hp,← hpk])
    rw[this]
    simp[Instr.lookup,run_underlying ht,MapKept.run_getObj_map hb,run_checkKey hk (hd k),run_findKey hk h1,Result.andThen,h5]
theorem Am7(ht:P.underlying t=some (.map kt et))(hk:P.underlying kt=some d)(hd:∀ k,IsKey d (ek k))(hinj:∀ a b,ek a=ek b→a=b)
    (hb:w.heap[b]? = some (.map es clock)) (hm:FC ek ev es clock l) (k:κ) (v:α) :
    ∃ es' clock',(Instr.mapUpdate t (.map (some b)) (ek k) (ev v)).run P w = .ok () { w with heap:=w.heap.setIfInBounds b (.map es' clock') }∧FC ek ev es' clock' (CU l k v):=by
  rcases findNow_spec (hd k) es.toList 0 (hm.keys hd) with⟨h1,h2⟩ | ⟨j,e0,h1,h2,h3⟩
  · refine⟨es.push ⟨ek k,ev v,clock⟩,clock+1,?_,stamped_push hm.st h2,?_⟩
    · simp[Instr.mapUpdate,run_underlying ht,MapKept.run_getObj_map hb,run_checkKey hk (hd k),run_findKey hk h1,MapKept.run_setObj_map _ hb,Result.andThen]
    · rw[AbG fun p hp he=>by
        obtain⟨e,he1,he2⟩:=hm.has hp
        exact h2 e he1 (by rw[he2,he])]
      rw[Array.toList_push,List.map_append,List.map_append,hm.eq]
      rfl
  · obtain⟨p,hp,h4,h5⟩:=hm.get h2
    have hpk:p.1=k:=hinj _ _ (by rw[← h4,h3])
    have hj:es[j]? = some e0:=by simpa using h2
    have hkeyf:∀ e',es[j]? = some e'→({ e' with key:=ek k,val:=ev v }:MapEntry).key=e'.key:=fun e' he'=>by rw[hj] at he';cases he';exact h3.symm
    refine⟨es.modify j (fun e'=>{ e' with key:=ek k,val:=ev v }),clock,?_,stamped_modify hm.st _ _ (fun _ _=>rfl) (fun e' _ he'=>hkeyf e' he'),?_⟩
    · simp[Instr.mapUpdate,run_underlying ht,MapKept.run_getObj_map hb,run_checkKey hk (hd k),run_findKey hk h1,hj,h3,run_keyThatStays (hd k),MapKept.run_setObj_map _ hb,Result.andThen]
    · rw[ApQ hm.nodup (j:=j) (v:=p.2) (by rw[hp,← hpk]),Array.toList_modify,Go.ChangeMaps.modify_eq_set _ _ _ _ h2,List.map_set,List.map_set,hm.eq]
theorem AtS{ty:TypeId}(ht:P.underlying t=some (.map kt et))(hk:P.underlying kt=some d)(hd:∀ k,IsKey d (ek k))(hinj:∀ a b,ek a=ek b→a=b)
    (hb:w.heap[b]? = some (.map es clock)) (hm:FC ek ev es clock l) (k:κ) :
    ∃ es',(Builtin.delete_ #[t,kt] ty #[.map (some b),ek k]).run P w = .ok (.tuple #[]) { w with heap:=w.heap.setIfInBounds b (.map es' clock) }∧FC ek ev es' clock (Adr l k):=by
  rcases findNow_spec (hd k) es.toList 0 (hm.keys hd) with⟨h1,h2⟩ | ⟨j,e0,h1,h2,h3⟩
  · refine⟨es,?_,hm.st,?_⟩
    · simp[Builtin.delete_,run_underlying ht,MapKept.run_getObj_map hb,run_checkKey hk (hd k),run_findKey hk h1,MapKept.run_setObj_map _ hb,Result.andThen]
    · rw[Aqk fun p hp he=>by
        obtain⟨e,he1,he2⟩:=hm.has hp
        exact h2 e he1 (by rw[he2,he])]
      exact hm.eq
  · obtain⟨p,hp,h4,h5⟩:=hm.get h2
    have hpk:p.1=k:=hinj _ _ (by rw[← h4,h3])
    have hjs:j<es.size:=by simpa using (List.getElem?_eq_some_iff.1 h2).1
    have Aah:(es.eraseIdxIfInBounds j).toList=es.toList.eraseIdx j:=by
      unfold Array.eraseIdxIfInBounds
      rw[dif_pos hjs]
      simp
    refine⟨es.eraseIdxIfInBounds j,?_,stamped_erase hm.st j,?_⟩
    · simp[Builtin.delete_,run_underlying ht,MapKept.run_getObj_map hb,run_checkKey hk (hd k),run_findKey hk h1,MapKept.run_setObj_map _ hb,Result.andThen]
    · rw[Apt hm.nodup (j:=j) (v:=p.2) (by rw[hp,← hpk]),Aah,Go.ChangeMaps.map_eraseIdx,Go.ChangeMaps.map_eraseIdx,hm.eq]
end
end Go.Proofs.YtjiagmjfnbljjaaGreatDoor
end
section
namespace Go.Proofs.YtjiagmjfnbljjaaGreatDoor
open Go
structure Nm where
  occurs:Bool
  at_:Int
  bound:Bool
  param:Bool
  by_:Int
  uses:List (Int×Int)
structure Sc where
  kind:Int
  at_:Int
  around:Int
  names:List (ByteArray×Nm)
  params:List ByteArray
  tries:Int
structure La where
  at_:Int
  text:ByteArray
  kind:Int
  s:Nat
structure Wp where
  scs:List Sc
  lat:List La
  code:Int
  at_:Int
def nm0:Nm:=⟨false,0,false,false,0,[]⟩
def Sc.of(s:Sc)(t:ByteArray):Sc:=match ZJ s.names t with
  | some _=>s
  | none=>{ s with names:=CU s.names t nm0 }
def Sc.nm(s:Sc)(t:ByteArray):Nm:=(ZJ s.names t).getD nm0
def Sc.upd(s:Sc)(t:ByteArray)(f:Nm→Nm):Sc:={ s with names:=s.names.map fun p=>if p.1=t then(p.1,f p.2) else p }
def Nm.occ(a:Int)(bound:Bool)(n:Nm):Nm:={ n with at_:=if !n.occurs || decide (a<n.at_) then a else n.at_,occurs:=true,bound:=n.bound || bound }
def Sc.occ(s:Sc)(t:ByteArray)(a:Int)(bound:Bool):Sc:=(s.of t).upd t (Nm.occ a bound)
def Wp.mod(w:Wp)(i:Nat)(f:Sc→Sc):Wp:={ w with scs:=w.scs.modify i f }
def Wp.occ(w:Wp)(i:Nat)(t:ByteArray)(a:Int)(bound:Bool):Wp:=w.mod i fun s=>s.occ t a bound
def Wp.fault(w:Wp)(code a:Int)(wrong:Bool):Wp:=
  if wrong && (w.code==0 || (decide (a<w.at_) || (a==w.at_ && decide (code<w.code)))) then { w with code:=code,at_:=a } else w
def Wp.many(w:Wp)(n:Nd):Wp:=w.fault 109 n.at_ (decide ((n.kids.length:Int) > 1000))
def Wp.open_(w:Wp)(kind a around:Int):Wp:={ w with scs:=w.scs ++ [⟨kind,a,around,[],[],0⟩] }
def Wp.kindOf(w:Wp)(i:Nat):Int:=match w.scs[i]? with
  | some s=>s.kind
  | none=>0
def AD:List ByteArray→List Nd→Wp→Wp
  | _,[],w=>w
  | pre,n :: l,w=>AD (pre ++ [n.text]) l (w.fault 110 n.at_ (pre.any fun t=>decide (t=n.text)))
def Wp.byOf(w:Wp)(s:Nat)(t:ByteArray):Int:=match w.scs[s]? with
  | some c=>(c.nm t).by_
  | none=>0
def Wp.later(w:Wp)(a:La):Wp:={ w with lat:=w.lat ++ [a] }
def PK(kind:Int)(s:Nat)(k:Nd)(w:Wp):Wp:=
  ((((w.mod s (·.of k.text)).fault 114 k.at_ ((w.mod s (·.of k.text)).byOf s k.text != 0 && (w.mod s (·.of k.text)).byOf s k.text != kind)).mod s fun c=>c.upd k.text fun n=>{ n with by_:=kind })).later ⟨k.at_,k.text,kind,s⟩
def NN(s:Nat)(k:Nd)(w:Wp):Wp:=
  (w.occ s k.text k.at_ true).mod s fun c=>{ (c.of k.text).upd k.text (fun n=>{ n with param:=true }) with params:=c.params ++ [k.text] }
def ndS:Nat→Bool→Nd→Nat→Bool→Bool→Wp→Wp
  | 0,_,_,_,_,_,w=>w
  | f+1,tgt,n,s,lp,ex,w=>
    let all (l:List Nd) (s:Nat) (lp ex:Bool) (w:Wp):Wp:=l.foldl (fun w k=>ndS f false k s lp ex w) w
    if n.kind==31 then w.occ s n.text n.at_ tgt else
    if tgt && n.kind==23 then n.kids.foldl (fun w k=>ndS f true k s lp ex w) (w.many n) else
    if n.kind==4 || n.kind==5 || n.kind==6 || n.kind==7 then all (n.kids.drop 1) s lp ex (ndS f true (n.kid 0) s lp ex w) else
    if n.kind==9 || n.kind==10 then w.fault 111 n.at_ (!lp) else
    if n.kind==11 then all n.kids s lp ex (w.fault 112 n.at_ (w.kindOf s != 2)) else
    if n.kind==12 then all n.kids s lp ex (w.fault 113 n.at_ ((n.kid 0).kind==0 && !ex)) else
    if n.kind==13 || n.kind==14 then n.kids.foldl (fun w k=>PK n.kind s k w) w else
    if n.kind==17 then ndS f false (n.kid 2) s true ex (ndS f false (n.kid 1) s lp ex (ndS f true (n.kid 0) s lp ex w)) else
    if n.kind==16 then ndS f false (n.kid 1) s true ex (ndS f false (n.kid 0) s lp ex w) else
    if n.kind==21 then all n.kids s lp ex (w.mod s fun c=>{ c with tries:=c.tries+1 }) else
    if n.kind==22 then ndS f false (n.kid 1) s lp true (ndS f false (n.kid 0) s lp ex (if n.text.toList == [] then w else w.occ s n.text n.at_ true)) else
    if n.kind==18 then
      let last:=n.kids.length - 1
      let w1:=AD [] (n.kids.take last) ((w.occ s n.text n.at_ true).fault 109 n.at_ (decide ((last:Int) > 1000)))
      let inn:=w1.scs.length
      ndS f false (n.kid last) inn false false ((n.kids.take last).foldl (fun w k=>all k.kids s lp ex (NN inn k w)) (w1.open_ 2 n.at_ s))
    else
    if n.kind==20 then
      let w1:=w.occ s n.text n.at_ true
      ndS f false (n.kid 1) w1.scs.length false false (ndS f false (n.kid 0) s lp ex (w1.open_ 3 n.at_ s))
    else
    if n.kind==41 || n.kind==42 || n.kind==43 then
      let inn:=w.scs.length
      all (n.kids.drop 3) inn false false (ndS f false (n.kid 2) s lp ex (ndS f true (n.kid 1) inn false false (ndS f false (n.kid 0) inn false false (w.open_ 4 n.at_ s))))
    else
    if n.kind==51 then all n.kids s lp ex (AD [] (n.kids.filter fun k=>k.kind==52) (w.many n)) else
    if n.kind==35 || n.kind==36 || n.kind==37 || n.kind==38 then all n.kids s lp ex (w.many n) else
    all n.kids s lp ex w
structure NmA where
  n:Nm
  bn:Nat
  un:Nat
  ue:Array MapEntry
  uc:Nat
structure ScA where
  kind:Int
  at_:Int
  around:Int
  names:List (ByteArray×NmA)
  params:List ByteArray
  tries:Int
  bs:Nat
  mp:Nat
  me:Array MapEntry
  mc:Nat
  ps:Sl
structure LaA where
  l:La
  bw:Nat
  bk:Nat
  bx:Nat
  bn:Nat
  by_:Nat
  bp:Nat
structure WA where
  scs:List ScA
  lat:List LaA
  L:Sl
  Lt:Sl
  code:Int
  at_:Int
def ScA.er(s:ScA):Sc:=⟨s.kind,s.at_,s.around,s.names.map fun p=>(p.1,p.2.n),s.params,s.tries⟩
def WA.er(a:WA):Wp:=⟨a.scs.map ScA.er,a.lat.map (·.l),a.code,a.at_⟩
def NmA.cells(n:NmA):Array Value:=#[.bool n.n.occurs,.int .i64 n.n.at_,.bool n.n.bound,.bool n.n.param,.int .i64 n.n.by_,.map (some n.un)]
def NmA.en(n:NmA):List En:=[.box n.bn (.cells n.cells 107),.box n.un (.map n.ue n.uc)]
def NmA.ptr(n:NmA):Value:=.pointer (some ⟨n.bn,0,none⟩)
def ScA.ptr(s:ScA):Value:=.pointer (some ⟨s.bs,0,none⟩)
def ScA.cells(s:ScA):Array Value:=#[.int .i64 s.kind,.int .i64 s.at_,.int .i64 s.around,.map (some s.mp),s.ps.v,.int .i64 s.tries]
def ScA.own(s:ScA):List En:=[.box s.bs (.cells s.cells 95),.box s.mp (.map s.me s.mc),.row 9 1 s.ps (s.params.map .string)]
def ScA.en(s:ScA):List En:=s.own++s.names.flatMap fun p=>p.2.en
def LaA.v(l:LaA):Value:=.func (.func 87) #[] #[.pointer (some ⟨l.bw,0,none⟩),.pointer (some ⟨l.bk,0,none⟩),.pointer (some ⟨l.bx,0,none⟩),.pointer (some ⟨l.bn,0,none⟩),.pointer (some ⟨l.by_,0,none⟩),.pointer (some ⟨l.bp,0,none⟩)]
def UC(bl:Nat):Value:=.func (.func 18) #[] #[.pointer (some ⟨bl,0,none⟩)]
def WA.top(a:WA)(bw bl:Nat):List En:=[.box bw (.cells #[a.L.v,UC bl,a.Lt.v] 60),.box bl (.cells #[.int .i64 a.code,.int .i64 a.at_] 32),.row 65 1 a.L (a.scs.map ScA.ptr),.row 1 1 a.Lt (a.lat.map LaA.v)]
def WA.en(a:WA)(bw bl:Nat):List En:=a.top bw bl++a.scs.flatMap ScA.en
structure NmA.Ok(n:NmA):Prop where
  m:FC (.int .i64) (.int .i64) n.ue n.uc n.n.uses
structure ScA.Ok(s:ScA):Prop where
  m:FC .string NmA.ptr s.me s.mc s.names
  nm:∀ p∈s.names,p.2.Ok
abbrev Fz:=List (Nat×Obj)
def XW(w0:World)(r:Fz):Xt w0.heap.size where
  p I w:=Ext w0 w∧∀ q∈r,I q.1∧w.heap[q.1]? = some q.2
  keep:=fun {I w w'} h k=>⟨Fr.step h.1 k fun i hi hd=>by have:=hd.1;omega,fun q hq=>⟨(h.2 q hq).1,k.get (h.2 q hq).2 fun hd=>hd.2 (h.2 q hq).1⟩⟩
  mono:=fun {I I' w} h hm=>⟨h.1,fun q hq=>⟨hm _ (h.2 q hq).1,(h.2 q hq).2⟩⟩
structure We where
  w0:World
  bw:Nat
  bl:Nat
def LaA.Ok(e:We)(a:WA)(r:Fz)(l:LaA):Prop:=
  (l.bw,Obj.cells #[.pointer (some ⟨e.bw,0,none⟩)] 53)∈r∧
  (∃ x:JA,(l.bk,Obj.cells x.cells 27)∈r∧x.At=l.l.at_∧x.Text=l.l.text)∧
  (∃ y:JA,(l.bn,Obj.cells y.cells 27)∈r∧y.Kind=l.l.kind)∧
  (∃ p:JB,(l.bp,Obj.cells p.cells 63)∈r∧p.s=l.l.s)∧
  ∃ (s:ScA) (n:NmA),a.scs[l.l.s]? = some s∧ZJ s.names l.l.text=some n∧
    (l.bx,Obj.cells #[n.ptr] 104)∈r∧(l.by_,Obj.cells #[s.ptr] 65)∈r
structure WA.Ok(e:We)(a:WA)(r:Fz):Prop where
  sc:∀ s∈a.scs,s.Ok
  la:∀ l∈a.lat,l.Ok e a r
end Go.Proofs.YtjiagmjfnbljjaaGreatDoor
end
section
namespace Go.Proofs.YtjiagmjfnbljjaaGreatDoor
open Go
set_option maxHeartbeats 4000000
set_option linter.unusedVariables false
set_option linter.unusedSimpArgs false
def WMr(e:We)(r:Fz)(w:World)(a:WA)(l:List En):Prop:=Mz e.w0.heap.size (XW e.w0 r) w (a.en e.bw e.bl++l)∧a.Ok e r
def WA.rest(a:WA)(i bw bl:Nat)(l:List En):List En:=a.top bw bl++((a.scs.eraseIdx i).flatMap ScA.en++l)
def WA.setS(a:WA)(i:Nat)(s:ScA):WA:={ a with scs:=a.scs.set i s }
theorem Ahf{α:Type}(x y z l:List α):(x++(y++z)++l).Perm (y++(x++(z++l))):=by
  have h1:(x++(y++z)++l)=(x++y)++(z++l):=by simp[List.append_assoc]
  have h2:y++(x++(z++l))=(y++x)++(z++l):=by simp[List.append_assoc]
  rw[h1,h2]
  exact List.perm_append_comm.append_right _
theorem WA.en_at{a:WA}{i:Nat}{s:ScA}(h:a.scs[i]? = some s)(bw bl:Nat)(l:List En):(a.en bw bl++l).Perm (s.en++a.rest i bw bl l):=by
  unfold WA.en WA.rest
  have h1:(a.scs.flatMap ScA.en).Perm (s.en++(a.scs.eraseIdx i).flatMap ScA.en):=List.Perm.flatMap_right ScA.en (Ad4 h)
  exact((h1.append_left (a.top bw bl)).append_right l).trans (Ahf _ _ _ _)
theorem WA.top_set{a:WA}{i:Nat}{s s':ScA}(h:a.scs[i]? = some s)(hb:s'.bs=s.bs)(bw bl:Nat):(a.setS i s').top bw bl=a.top bw bl:=by
  have:(a.scs.set i s').map ScA.ptr=a.scs.map ScA.ptr:=by
    rw[List.map_set]
    have:ScA.ptr s'=ScA.ptr s:=by unfold ScA.ptr;rw[hb]
    rw[this]
    apply List.ext_getElem?
    intro j
    rw[List.getElem?_set]
    split
    · rename_i hij
      subst hij
      rw[List.getElem?_map,h]
      have hlt:=(List.getElem?_eq_some_iff.1 h).1
      simp[hlt]
    · rfl
  unfold WA.top WA.setS
  rw[this]
theorem WA.en_set{a:WA}{i:Nat}{s s':ScA}(h:a.scs[i]? = some s)(hb:s'.bs=s.bs)(bw bl:Nat)(l:List En):((a.setS i s').en bw bl++l).Perm (s'.en++a.rest i bw bl l):=by
  have h1:((a.setS i s').scs.flatMap ScA.en).Perm (s'.en++(a.scs.eraseIdx i).flatMap ScA.en):=List.Perm.flatMap_right ScA.en (WV h s')
  have h2:=WA.top_set h hb bw bl
  unfold WA.en WA.rest
  rw[h2]
  exact((h1.append_left (a.top bw bl)).append_right l).trans (Ahf _ _ _ _)
def ScA.setN(s:ScA)(j:Nat)(t:ByteArray)(n:NmA):ScA:={ s with names:=s.names.set j (t,n) }
def ScA.rest(s:ScA)(j:Nat)(l:List En):List En:=s.own++((s.names.eraseIdx j).flatMap (fun p=>p.2.en)++l)
theorem ScA.en_at{s:ScA}{j:Nat}{t:ByteArray}{n:NmA}(h:s.names[j]? = some (t,n))(l:List En):(s.en++l).Perm (n.en++s.rest j l):=by
  unfold ScA.en ScA.rest
  have h1:(s.names.flatMap fun p=>p.2.en).Perm (n.en++(s.names.eraseIdx j).flatMap fun p=>p.2.en):=List.Perm.flatMap_right (fun p=>p.2.en) (Ad4 h)
  exact((h1.append_left s.own).append_right l).trans (Ahf _ _ _ _)
theorem ScA.en_set{s:ScA}{j:Nat}{t:ByteArray}{n n':NmA}(h:s.names[j]? = some (t,n))(l:List En):((s.setN j t n').en++l).Perm (n'.en++s.rest j l):=by
  have h1:((s.setN j t n').names.flatMap fun p=>p.2.en).Perm (n'.en++(s.names.eraseIdx j).flatMap fun p=>p.2.en):=List.Perm.flatMap_right (fun p=>p.2.en) (WV h (t,n'))
  unfold ScA.en ScA.rest
  exact((h1.append_left s.own).append_right l).trans (Ahf _ _ _ _)
section
variable{e:We}{r:Fz}{w w':World}{a:WA}{l:List En}
theorem WMr.ext(h:WMr e r w a l)(x:Ext w w'):WMr e r w' a l:=⟨h.1.ext x,h.2⟩
theorem WMr.base(h:WMr e r w a l):Ext e.w0 w:=by
  obtain⟨⟨I,_,h2⟩,_⟩:=h
  exact h2.1
theorem WMr.fz(h:WMr e r w a l){b:Nat}{o:Obj}(hq:(b,o)∈r):w.heap[b]? = some o:=by
  obtain⟨⟨I,_,h2⟩,_⟩:=h
  exact(h2.2 _ hq).2
theorem FK{α:Type}(x:α)(y l:List α):(x :: (y++l)).Perm (y++x :: l):=List.perm_middle.symm
theorem WMr.bx{o:Obj}{K:Addr→World→Prop}(h:WMr e r w a l)(k:∀ b w',WMr e r w' a (.box b o :: l)→K ⟨b,0,none⟩ w'):bx o K w:=
  h.1.bx fun b w' hz=>k b w' ⟨hz.perm (FK _ _ _),h.2⟩
theorem WMr.new{o:Obj}{ad:Addr}(h:WMr e r w a l)(n:LG w o ad w'):WMr e r w' a (.box w.heap.size o :: l):=⟨(h.1.new n).perm (FK _ _ _),h.2⟩
theorem WMr.dw{K:World→Prop}(h:WMr e r w a l)(k:∀ w',WMr e r w' a l→K w'):dw K w:=fun w' d=>k w' (h.ext d.fr)
theorem WMr.sub{l':List En}(h:WMr e r w a l)(p:l'.Sublist l):WMr e r w a l':=⟨h.1.sub (p.append_left _),h.2⟩
theorem WMr.perm{l':List En}(h:WMr e r w a l)(p:l.Perm l'):WMr e r w a l':=⟨h.1.perm (p.append_left _),h.2⟩
theorem WMr.cells(h:WMr e r w a l){b:Nat}{cs:Array Value}{t:Nat}(he : .box b (.cells cs t (0,0))∈l):JD w ⟨b,0,none⟩ cs.toList:=.all (h.1.heap (List.mem_append_right _ he))
theorem WMr.fzCells(h:WMr e r w a l){b:Nat}{cs:Array Value}{t:Nat}(he:(b,Obj.cells cs t (0,0))∈r):JD w ⟨b,0,none⟩ cs.toList:=.all (h.fz he)
theorem WMr.set{k b:Nat}{o o':Obj}(h:WMr e r w a l)(hk:l[k]? = some (.box b o))(s:HZ w b o' w'):WMr e r w' a (l.set k (.box b o')):=by
  have hlen:(a.en e.bw e.bl).length+k<(a.en e.bw e.bl++l).length:=by
    have:=(List.getElem?_eq_some_iff.1 hk).1
    rw[List.length_append];omega
  have hk':(a.en e.bw e.bl++l)[(a.en e.bw e.bl).length+k]? = some (.box b o):=by
    rw[List.getElem?_append_right (by omega),Nat.add_sub_cancel_left];exact hk
  have:=h.1.set hk' s
  rw[List.set_append_right _ _ (by omega),Nat.add_sub_cancel_left] at this
  exact⟨this,h.2⟩
theorem WMr.put{a':WA}{b:Nat}{o o':Obj}{rest:List En}(h:WMr e r w a l)(hp:(a.en e.bw e.bl++l).Perm (.box b o :: rest))(s:HZ w b o' w')(hp':(a'.en e.bw e.bl++l).Perm (.box b o' :: rest))(ok:a'.Ok e r):WMr e r w' a' l:=by
  have h1:=(h.1.perm hp).set (k:=0) rfl s
  exact⟨h1.perm hp'.symm,ok⟩
theorem LaA.Ok.more{la:LaA}{r':Fz}(h:la.Ok e a r)(hr:∀ q∈r,q∈r'):la.Ok e a r':=by
  obtain⟨h1,⟨x,h2,h3⟩,⟨y,h4,h5⟩,⟨p,h6,h7⟩,s,n,h8,h9,h10,h11⟩:=h
  exact⟨hr _ h1,⟨x,hr _ h2,h3⟩,⟨y,hr _ h4,h5⟩,⟨p,hr _ h6,h7⟩,s,n,h8,h9,hr _ h10,hr _ h11⟩
theorem WMr.freeze{b:Nat}{o:Obj}(h:WMr e r w a (.box b o :: l)):WMr e ((b,o) :: r) w a l:=by
  obtain⟨hz,hok⟩:=h
  have hz':=hz.perm (FK (.box b o) (a.en e.bw e.bl) l).symm
  obtain⟨I,hm,hx⟩:=hz'
  refine⟨⟨_,hm.freeze,hx.1,fun q hq => ?_⟩,hok.sc,fun la hla=>(hok.la la hla).more fun q hq=>List.mem_cons_of_mem _ hq⟩
  rcases List.mem_cons.1 hq with rfl | hq
  · have hk:(En.box b o).ok e.w0.heap.size w:=hm.ok (.box b o) (by simp)
    exact⟨.inr rfl,hk.1⟩
  · exact⟨.inl (hx.2 q hq).1,(hx.2 q hq).2⟩
theorem WMr.top(h:WMr e r w a l):JD w ⟨e.bw,0,none⟩ [a.L.v,UC e.bl,a.Lt.v]:=by
  have hb:w.heap[e.bw]? = some (.cells #[a.L.v,UC e.bl,a.Lt.v] 60):=h.1.heap (by simp[WA.en,WA.top])
  exact .all hb
theorem WMr.flt(h:WMr e r w a l):JD w ⟨e.bl,0,none⟩ [.int .i64 a.code,.int .i64 a.at_]:=by
  have hb:w.heap[e.bl]? = some (.cells #[.int .i64 a.code,.int .i64 a.at_] 32):=h.1.heap (by simp[WA.en,WA.top])
  exact .all hb
theorem WMr.rowL(h:WMr e r w a l):OQ w a.L (a.scs.map ScA.ptr)∧a.L.n=a.scs.length:=by
  have ho:Own w e.w0.heap.size 65 1 a.L (a.scs.map ScA.ptr):=h.1.ok (e:=.row 65 1 a.L (a.scs.map ScA.ptr)) (by simp[WA.en,WA.top])
  have:=ho.len
  rw[List.length_map] at this
  exact⟨ho.cells,by omega⟩
theorem WMr.rowLt(h:WMr e r w a l):OQ w a.Lt (a.lat.map LaA.v)∧a.Lt.n=a.lat.length:=by
  have ho:Own w e.w0.heap.size 1 1 a.Lt (a.lat.map LaA.v):=h.1.ok (e:=.row 1 1 a.Lt (a.lat.map LaA.v)) (by simp[WA.en,WA.top])
  have:=ho.len
  rw[List.length_map] at this
  exact⟨ho.cells,by omega⟩
theorem WMr.scope(h:WMr e r w a l){i:Nat}{s:ScA}(hs:a.scs[i]? = some s):∃ p,a.L.a=some p∧i<a.L.n∧w.cell? (p.add i)=some s.ptr:=by
  obtain⟨h1,h2⟩:=h.rowL
  have hlt:=(List.getElem?_eq_some_iff.1 hs).1
  cases ha:a.L.a with
  | none=>have:=(h1.1 ha).1;omega
  | some p=>exact⟨p,rfl,by omega,h1.2 p ha i _ (by rw[List.getElem?_map,hs];rfl)⟩
theorem WMr.sc(h:WMr e r w a l){i:Nat}{s:ScA}(hs:a.scs[i]? = some s):JD w ⟨s.bs,0,none⟩ s.cells.toList:=by
  have hb:w.heap[s.bs]? = some (.cells s.cells 95):=h.1.heap (List.mem_append_left _ (List.mem_append_right _ (List.mem_flatMap.2 ⟨s,List.mem_of_getElem? hs,by simp[ScA.en,ScA.own]⟩)))
  exact .all hb
theorem WMr.map(h:WMr e r w a l){i:Nat}{s:ScA}(hs:a.scs[i]? = some s):w.heap[s.mp]? = some (.map s.me s.mc):=by
  refine h.1.heap (List.mem_append_left _ (List.mem_append_right _ (List.mem_flatMap.2 ⟨s,List.mem_of_getElem? hs,?_⟩)))
  simp[ScA.en,ScA.own]
theorem WMr.nm(h:WMr e r w a l){i j:Nat}{s:ScA}{t:ByteArray}{n:NmA}(hs:a.scs[i]? = some s)(hn:s.names[j]? = some (t,n)):JD w ⟨n.bn,0,none⟩ n.cells.toList:=by
  have hb:w.heap[n.bn]? = some (.cells n.cells 107):=h.1.heap (List.mem_append_left _ (List.mem_append_right _ (List.mem_flatMap.2 ⟨s,List.mem_of_getElem? hs,List.mem_append_right _ (List.mem_flatMap.2 ⟨(t,n),List.mem_of_getElem? hn,by simp[NmA.en]⟩)⟩)))
  exact .all hb
end
def WA.Le(a a':WA):Prop:=∀ (i:Nat) (s:ScA),a.scs[i]? = some s→∃ s':ScA,a'.scs[i]? = some s'∧s'.bs=s.bs∧∀ (t:ByteArray) (n:NmA),ZJ s.names t=some n→∃ n':NmA,ZJ s'.names t=some n'∧n'.bn=n.bn
theorem WA.Le.refl(a:WA):a.Le a:=fun i s h=>⟨s,h,rfl,fun t n h=>⟨n,h,rfl⟩⟩
theorem WA.Le.trans{a b c:WA}(h:a.Le b)(k:b.Le c):a.Le c:=by
  intro i s hs
  obtain⟨s1,h1,h2,h3⟩:=h i s hs
  obtain⟨s2,k1,k2,k3⟩:=k i s1 h1
  refine⟨s2,k1,by rw[k2,h2],fun t n hn => ?_⟩
  obtain⟨n1,h4,h5⟩:=h3 t n hn
  obtain⟨n2,k4,k5⟩:=k3 t n1 h4
  exact⟨n2,k4,by rw[k5,h5]⟩
theorem LaA.Ok.le{e:We}{a a':WA}{r:Fz}{la:LaA}(h:la.Ok e a r)(hl:a.Le a'):la.Ok e a' r:=by
  obtain⟨h1,h2,h4,h6,s,n,h8,h9,h10,h11⟩:=h
  obtain⟨s',k1,k2,k3⟩:=hl _ _ h8
  obtain⟨n',k4,k5⟩:=k3 _ _ h9
  refine⟨h1,h2,h4,h6,s',n',k1,k4,?_,?_⟩
  · have:n'.ptr=n.ptr:=by unfold NmA.ptr;rw[k5]
    rw[this];exact h10
  · have:s'.ptr=s.ptr:=by unfold ScA.ptr;rw[k2]
    rw[this];exact h11
theorem WA.le_set{a:WA}{i:Nat}{s s':ScA}(hs:a.scs[i]? = some s)(hb:s'.bs=s.bs)(hn:∀ t n,ZJ s.names t=some n→∃ n',ZJ s'.names t=some n'∧n'.bn=n.bn):a.Le (a.setS i s'):=by
  intro j x hx
  by_cases hij:i=j
  · subst hij
    rw[hs] at hx;cases hx
    have hlt:=(List.getElem?_eq_some_iff.1 hs).1
    exact⟨s',by unfold WA.setS;simp[hlt],hb,hn⟩
  · exact⟨x,by unfold WA.setS;simp[hij,hx],rfl,fun t n h=>⟨n,h,rfl⟩⟩
theorem WA.Ok.set{e:We}{r:Fz}{a:WA}{i:Nat}{s s':ScA}(h:a.Ok e r)(hs:a.scs[i]? = some s)(ok:s'.Ok)(hl:a.Le (a.setS i s')):(a.setS i s').Ok e r:=by
  refine⟨fun x hx => ?_,fun la hla=>(h.la la hla).le hl⟩
  rcases List.mem_or_eq_of_mem_set hx with hx | rfl
  · exact h.sc x hx
  · exact ok
end Go.Proofs.YtjiagmjfnbljjaaGreatDoor
end
section
namespace Go.Proofs.YtjiagmjfnbljjaaGreatDoor
open Go Go.MapKept
set_option maxHeartbeats 4000000
set_option linter.unusedVariables false
set_option linter.unusedSimpArgs false
theorem AnE{α β:Type}(f:α→β)(t:ByteArray):∀ l:List (ByteArray×α),ZJ (l.map fun p=>(p.1,f p.2)) t=(ZJ l t).map f
  | []=>rfl
  | p :: l=>by
    rw[List.map_cons]
    unfold ZJ
    split
    · rfl
    · exact AnE f t l
theorem An4{α β:Type}(f:α→β)(t:ByteArray)(v:α):∀ l:List (ByteArray×α),(CU l t v).map (fun p=>(p.1,f p.2))=CU (l.map fun p=>(p.1,f p.2)) t (f v)
  | []=>rfl
  | p :: l=>by
    rw[List.map_cons]
    unfold CU
    split
    · rfl
    · rw[List.map_cons,An4 f t v l]
theorem ScA.er_get(s:ScA)(t:ByteArray):ZJ s.er.names t=(ZJ s.names t).map (·.n):=AnE NmA.n t s.names
theorem Ah7{α:Type}(f:α→α):∀ (l:List α) (i:Nat) (x:α),l[i]? = some x→l.modify i f=l.set i (f x)
  | [],_,_,h=>by simp at h
  | a :: r,0,x,h=>by simp at h;subst h;rfl
  | a :: r,i+1,x,h=>by
    simp only[List.getElem?_cons_succ] at h
    rw[List.modify_succ_cons,List.set_cons_succ,Ah7 f r i x h]
theorem PT{α:Type}:∀ (l:List α) (i:Nat) (x:α),l[i]? = some x→l.set i x=l
  | [],_,_,h=>by simp at h
  | a :: r,0,x,h=>by simp at h;subst h;rfl
  | a :: r,i+1,x,h=>by
    simp only[List.getElem?_cons_succ] at h
    rw[List.set_cons_succ,PT r i x h]
theorem WA.er_at{a:WA}{i:Nat}{s:ScA}(h:a.scs[i]? = some s):a.er.scs[i]? = some s.er:=by
  show(a.scs.map ScA.er)[i]? = _
  rw[List.getElem?_map,h];rfl
theorem WA.er_set{a:WA}{i:Nat}{s s':ScA}(h:a.scs[i]? = some s){f:Sc→Sc}(hf:s'.er=f s.er):(a.setS i s').er=a.er.mod i f:=by
  unfold Wp.mod
  have h1:a.er.scs.modify i f=(a.scs.set i s').map ScA.er:=by
    rw[Ah7 f _ _ _ (WA.er_at h),List.map_set,hf];rfl
  rw[h1];rfl
theorem WA.er_same{a:WA}{i:Nat}{s:ScA}(h:a.scs[i]? = some s){f:Sc→Sc}(hf:f s.er=s.er):a.er.mod i f=a.er:=by
  unfold Wp.mod
  rw[Ah7 f _ _ _ (WA.er_at h),hf,PT _ _ _ (WA.er_at h)]
theorem AeS(a b:ByteArray)(h:Value.string a = .string b):a=b:=by cases h;rfl
theorem Ajs:PP.underlying 93=some (.map 9 104):=by kernel_rfl
theorem Apa:PP.underlying 9=some .string:=by kernel_rfl
theorem Anm(w:World):(zeroValue 104).run PP w = .ok (.pointer none) w:=by
  simp[zeroValue,Tryz.t104]
section
variable{e:We}{r:Fz}{w w':World}{a:WA}{l:List En}
theorem Av6:PP.underlying 104=some (.pointer (PP.pointee 104)):=by kernel_rfl
theorem Apu(p:Option Addr):(do eqGuard .eql 104 (.const (.pointer p)) (.const (.pointer none)) (.pointer p) (.pointer none);binOp .eql 104 (.pointer p) (.pointer none):Sem Value).run PP w = .ok (.bool p.isNone) w:=by
  have h:=run_eql_pointer_nil (P:=PP) (w:=w) 104 p Av6
  have hg:eqGuard .eql 104 (.const (.pointer p)) (.const (.pointer none)) (.pointer p) (.pointer none)=pure ():=by
    simp[eqGuard]
  rw[hg]
  exact h
theorem ApE{b:Nat}{es:Array MapEntry}{clock:Nat}{names:List (ByteArray×NmA)}(hb:w.heap[b]? = some (.map es clock))(hm:FC .string NmA.ptr es clock names)(t:ByteArray){K:Option Addr→World→Prop}(c:K ((ZJ names t).map fun n=>⟨n.bn,0,none⟩) w):YT (some b) t K w:=by
  have:=Aex (P:=PP) (w:=w) (ek:=Value.string) Ajs Apa (Anm w) (fun _=>trivial) AeS hb hm t false
  refine YZ (h:=SO) _ ?_ c
  rw[this]
  cases ZJ names t with
  | none=>rfl
  | some n=>rfl
theorem AqE{b:Nat}{es:Array MapEntry}{clock:Nat}{names:List (ByteArray×NmA)}(hb:w.heap[b]? = some (.map es clock))(hm:FC .string NmA.ptr es clock names)(t:ByteArray){K:GI→World→Prop}(c:K ⟨(ZJ names t).map fun n=>⟨n.bn,0,none⟩,(ZJ names t).isSome⟩ w):FO (some b) t K w:=by
  have:=Aex (P:=PP) (w:=w) (ek:=Value.string) Ajs Apa (Anm w) (fun _=>trivial) AeS hb hm t true
  refine YZ (h:=FE) _ ?_ c
  rw[this]
  cases ZJ names t with
  | none=>rfl
  | some n=>rfl
theorem Ava{b:Nat}{es:Array MapEntry}{clock:Nat}{names:List (ByteArray×NmA)}(hb:w.heap[b]? = some (.map es clock))(hm:FC .string NmA.ptr es clock names)(t:ByteArray)(n:NmA){K:World→Prop}(c:∀ es' clock' w',HZ w b (.map es' clock') w'→FC .string NmA.ptr es' clock' (CU names t n)→K w'):LQ (some b) t (some ⟨n.bn,0,none⟩) K w:=by
  obtain⟨es',clock',h1,h2⟩:=Am7 (P:=PP) (w:=w) (ek:=Value.string) Ajs Apa (fun _=>trivial) AeS hb hm t n
  exact CW h1 (c es' clock' _ rfl h2)
theorem WMr.putL{a':WA}{b:Nat}{o o':Obj}{rest l':List En}(h:WMr e r w a l)(hp:(a.en e.bw e.bl++l).Perm (.box b o :: rest))(s:HZ w b o' w')(hp':(a'.en e.bw e.bl++l').Perm (.box b o' :: rest))(ok:a'.Ok e r):WMr e r w' a' l':=by
  have h1:=(h.1.perm hp).set (k:=0) rfl s
  exact⟨h1.perm hp'.symm,ok⟩
theorem ArW{t:Nat}{K:Option Nat→World→Prop}(h:WMr e r w a l)(c:∀ b w',WMr e r w' a (.box b (.map #[] 0) :: l)→K (some b) w'):rn (Instr.makeMap t none) Ae7 K w:=by
  refine YZ (h:=Ae7) (some w.heap.size) (w':=w.alloc (.map #[] 0)) ?_ (c _ _ (h.new (ad:=⟨w.heap.size,0,none⟩) ⟨rfl,rfl⟩))
  simp[Instr.makeMap]
  rfl
theorem Atw{α:Type}(x m m' y:α)(N k P l:List α):([x,m,y] ++ N++(P++(k++l))).Perm (m :: ([x,y] ++ N++(P++(k++l))))∧([x,m',y] ++ (N++k)++(P++l)).Perm (m' :: ([x,y] ++ N++(P++(k++l)))):=by
  classical
  constructor
  · refine List.perm_iff_count.2 fun z => ?_
    simp only[List.count_append,List.count_cons,List.count_nil];omega
  · refine List.perm_iff_count.2 fun z => ?_
    simp only[List.count_append,List.count_cons,List.count_nil];omega
theorem ApL(h:WMr e r w a l){i:Nat}{s:ScA}(hs:a.scs[i]? = some s)(t:ByteArray){K:Option Addr→World→Prop}
    (c:∀ a' s' n w',WMr e r w' a' l→a'.scs[i]? = some s'→a.Le a'→a'.er=a.er.mod i (·.of t)→ZJ s'.names t=some n→s'.bs=s.bs→a'.lat=a.lat→K (some ⟨n.bn,0,none⟩) w'):UK (some ⟨s.bs,0,none⟩) t K w:=by
  refine Ae3 _ _ _ _ ?_
  unfold Abq
  have hok:=h.2.sc s (List.mem_of_getElem? hs)
  refine JM rfl (DQ (x:=some s.mp) ((h.sc hs) 3 _ rfl) ?_)
  refine ApE (h.map hs) hok.m t ?_
  cases hg:ZJ s.names t with
  | some n=>
    refine YZ (h:=JS) (w':=w) false ?_ ?_
    · exact Apu _
    · refine ZH rfl (Rt.mk (h:=SO) (some ⟨n.bn,0,none⟩) ?_)
      refine c a s n w h hs (.refl _) ?_ hg rfl rfl
      refine(WA.er_same hs ?_).symm
      unfold Sc.of
      rw[s.er_get,hg];rfl
  | none=>
    refine YZ (h:=JS) (w':=w) true ?_ ?_
    · exact Apu _
    · refine VF rfl ?_
      refine ArW h fun un w1 h => ?_
      refine h.bx fun bn w2 h => ?_
      refine JM rfl (DQ (x:=some s.mp) ((h.sc hs) 3 _ rfl) ?_)
      let n:NmA:=⟨nm0,bn,un,#[],0⟩
      refine Ava (h.map hs) hok.m t n fun es' clock' w3 hset hm' => ?_
      have hput:CU s.names t n=s.names ++ [(t,n)]:=AbG fun p hp he=>by
        have:∃ v,ZJ s.names t=some v:=by
          obtain⟨j,hj⟩:=List.mem_iff_getElem?.1 hp
          exact⟨p.2,CP hok.m.nodup (j:=j) (by rw[hj,← he])⟩
        rw[hg] at this
        obtain⟨v,hv⟩:=this
        cases hv
      let s':ScA:={ s with names:=s.names ++ [(t,n)],me:=es',mc:=clock' }
      rw[hput] at hm'
      have hgn:ZJ (s.names ++ [(t,n)]) t=some n:=by
        have:=CP (l:=s.names ++ [(t,n)]) (k:=t) (j:=s.names.length) (v:=n) hm'.nodup (by simp)
        exact this
      have hle:a.Le (a.setS i s'):=WA.le_set hs rfl fun t' n' hn'=>⟨n',by
        show ZJ (s.names ++ [(t,n)]) t'=some n'
        have:∀ (L:List (ByteArray×NmA)),ZJ L t'=some n'→ZJ (L ++ [(t,n)]) t'=some n':=by
          intro L
          induction L with
          | nil=>intro h;cases h
          | cons p L ih=>
            intro h
            unfold ZJ at h
            rw[List.cons_append]
            unfold ZJ
            split at h
            · rename_i hp;rw[if_pos hp];exact h
            · rename_i hp;rw[if_neg hp];exact ih h
        exact this _ hn',rfl⟩
      have hlt:=(List.getElem?_eq_some_iff.1 hs).1
      refine Rt.mk (h:=SO) (some ⟨bn,0,none⟩) (c (a.setS i s') s' n w3 ?_ (by unfold WA.setS;simp[hlt]) hle ?_ hgn rfl rfl)
      · obtain⟨p1,p2⟩:=Atw (.box s.bs (.cells s.cells 95)) (.box s.mp (.map s.me s.mc)) (.box s.mp (.map es' clock')) (.row 9 1 s.ps (s.params.map .string)) (s.names.flatMap fun p=>p.2.en) n.en (a.top e.bw e.bl++(a.scs.eraseIdx i).flatMap ScA.en) l
        refine h.putL (a':=a.setS i s') (((WA.en_at hs e.bw e.bl (n.en++l)).trans (.of_eq ?_)).trans p1) hset (((WA.en_set (s':=s') hs rfl e.bw e.bl l).trans (.of_eq ?_)).trans p2) (h.2.set hs ⟨hm',fun p hp => ?_⟩ hle)
        · simp[ScA.en,ScA.own,WA.rest,List.append_assoc]
        · simp[ScA.en,ScA.own,WA.rest,List.append_assoc,s']
          rfl
        · rcases List.mem_append.1 hp with hp | hp
          · exact hok.nm p hp
          · rw[List.mem_singleton] at hp
            subst hp
            exact⟨.nil 0⟩
      · refine WA.er_set hs ?_
        unfold Sc.of
        rw[s.er_get,hg]
        show _ = { s.er with names:=CU s.er.names t nm0 }
        have:=An4 NmA.n t n s.names
        rw[hput] at this
        unfold ScA.er
        simp only[s'] at this ⊢
        rw[this]
end
end Go.Proofs.YtjiagmjfnbljjaaGreatDoor
end
section
namespace Go.Proofs.YtjiagmjfnbljjaaGreatDoor
open Go Go.MapKept
set_option maxHeartbeats 4000000
set_option linter.unusedVariables false
set_option linter.unusedSimpArgs false
theorem NmA.size(n:NmA):n.cells.size=6:=rfl
theorem Amr(a:WA)(i:Nat)(s s':ScA):(a.setS i s).setS i s'=a.setS i s':=by
  unfold WA.setS
  simp
theorem Amq(s:ScA)(j:Nat)(t:ByteArray)(n n':NmA):(s.setN j t n).setN j t n'=s.setN j t n':=by
  unfold ScA.setN
  simp
theorem SW{a:WA}{i:Nat}{s:ScA}(h:a.scs[i]? = some s)(s':ScA):(a.setS i s').scs[i]? = some s':=by
  have hlt:=(List.getElem?_eq_some_iff.1 h).1
  unfold WA.setS;simp[hlt]
theorem AcD{s:ScA}{j:Nat}{t:ByteArray}{n:NmA}(h:s.names[j]? = some (t,n))(n':NmA):(s.setN j t n').names[j]? = some (t,n'):=by
  have hlt:=(List.getElem?_eq_some_iff.1 h).1
  unfold ScA.setN;simp[hlt]
theorem AnU{α:Type}{t:ByteArray}(f:α→α):∀ {l:List (ByteArray×α)} {j:Nat} {v:α},(l.map (·.1)).Nodup→l[j]? = some (t,v)→l.map (fun p=>if p.1=t then(p.1,f p.2) else p)=l.set j (t,f v)
  | [],j,_,_,h=>by simp at h
  | p :: l,0,v,hn,h=>by
    simp only[List.getElem?_cons_zero,Option.some.injEq] at h
    subst h
    simp only[List.map_cons,List.nodup_cons] at hn
    rw[List.map_cons,List.set_cons_zero,if_pos rfl]
    congr 1
    have:∀ q∈l,(if q.1=t then(q.1,f q.2) else q)=q:=fun q hq=>if_neg fun he=>hn.1 (by rw[← he];exact List.mem_map.2 ⟨q,hq,rfl⟩)
    rw[List.map_congr_left this,List.map_id']
  | p :: l,j+1,v,hn,h=>by
    simp only[List.map_cons,List.nodup_cons] at hn
    simp only[List.getElem?_cons_succ] at h
    rw[List.map_cons,List.set_cons_succ,AnU f hn.2 h,if_neg fun he=>hn.1 (by rw[he];exact List.mem_map.2 ⟨(t,v),List.mem_of_getElem? h,rfl⟩)]
theorem BP{α:Type}{t:ByteArray}{v:α}:∀ {l:List (ByteArray×α)},ZJ l t=some v→∃ j:Nat,l[j]? = some (t,v)
  | [],h=>by cases h
  | p :: l,h=>by
    unfold ZJ at h
    split at h
    · rename_i hp
      simp only[Option.some.injEq] at h
      exact⟨0,by rw[List.getElem?_cons_zero,← hp,← h]⟩
    · obtain⟨j,hj⟩:=BP h
      exact⟨j+1,by rw[List.getElem?_cons_succ];exact hj⟩
section
variable{e:We}{r:Fz}{w w':World}{a:WA}{l:List En}
theorem WMr.nmSet(h:WMr e r w a l){i j:Nat}{s:ScA}{t:ByteArray}{n n':NmA}(hs:a.scs[i]? = some s)(hj:s.names[j]? = some (t,n))(hb:n'.bn=n.bn)(hu:n'.un=n.un)(he:n'.ue=n.ue)(hc:n'.uc=n.uc)(huse:n'.n.uses=n.n.uses)
    (hset:HZ w n.bn (.cells n'.cells 107) w'):WMr e r w' (a.setS i (s.setN j t n')) l:=by
  have hsok:=h.2.sc s (List.mem_of_getElem? hs)
  have hget:ZJ s.names t=some n:=CP hsok.m.nodup hj
  have hnd:=hsok.m.nodup
  have hlj:=(List.getElem?_eq_some_iff.1 hj).1
  have hkeys:(s.setN j t n').names.map (·.1)=s.names.map (·.1):=by
    unfold ScA.setN
    rw[List.map_set]
    exact PT _ _ _ (by rw[List.getElem?_map,hj];rfl)
  have hget':ZJ (s.setN j t n').names t=some n':=CP (by rw[hkeys];exact hnd) (AcD hj n')
  have hle:a.Le (a.setS i (s.setN j t n')):=WA.le_set hs rfl fun t' m hm=>by
    by_cases ht:t'=t
    · subst ht
      rw[hget] at hm;cases hm
      exact⟨n',hget',hb⟩
    · refine⟨m,?_,rfl⟩
      obtain⟨k,hk⟩:=BP hm
      refine CP (by rw[hkeys];exact hnd) (j:=k) ?_
      unfold ScA.setN
      rw[List.getElem?_set,if_neg,hk]
      intro hjk
      subst hjk
      rw[hj] at hk
      simp only[Option.some.injEq,Prod.mk.injEq] at hk
      exact ht hk.1.symm
  have hok':(s.setN j t n').Ok:=by
    refine⟨⟨hsok.m.st,?_⟩,fun p hp => ?_⟩
    · show s.me.toList.map _=(s.names.set j (t,n')).map _
      rw[hsok.m.eq,List.map_set]
      refine(PT _ _ _ ?_).symm
      rw[List.getElem?_map,hj]
      show some _=some _
      unfold NmA.ptr
      rw[hb]
    · have hp:p∈s.names.set j (t,n'):=hp
      rcases List.mem_or_eq_of_mem_set hp with hp | rfl
      · exact hsok.nm p hp
      · have:=hsok.nm (t,n) (List.mem_of_getElem? hj)
        exact⟨by rw[he,hc,huse];exact this.m⟩
  have q:∀ n:NmA,n.en = .box n.bn (.cells n.cells 107) :: [.box n.un (.map n.ue n.uc)]:=fun _=>rfl
  refine h.put (b:=n.bn) (o:=.cells n.cells 107) (o':=.cells n'.cells 107) (rest:=[.box n.un (.map n.ue n.uc)] ++ s.rest j (a.rest i e.bw e.bl l)) (((WA.en_at hs e.bw e.bl l).trans (ScA.en_at hj _)).trans (.of_eq ?_)) hset (((WA.en_set (s':=s.setN j t n') hs rfl e.bw e.bl l).trans (ScA.en_set hj _)).trans (.of_eq ?_)) (h.2.set hs hok' hle)
  · rw[q];rfl
  · rw[q,hb,hu,he,hc];rfl
theorem Akg{i j:Nat}{s:ScA}{t:ByteArray}{n n':NmA}{f:Nm→Nm}(hok:s.Ok)(hs:a.scs[i]? = some s)(hj:s.names[j]? = some (t,n))(hn:n'.n=f n.n):(a.setS i (s.setN j t n')).er=a.er.mod i (·.upd t f):=by
  refine WA.er_set hs ?_
  have h1:(s.er.names.map (·.1)).Nodup:=by
    have:s.er.names.map (·.1)=s.names.map (·.1):=by unfold ScA.er;simp
    rw[this];exact hok.m.nodup
  have h2:s.er.names[j]? = some (t,n.n):=by
    show(s.names.map fun p=>(p.1,p.2.n))[j]? = _
    rw[List.getElem?_map,hj];rfl
  have h3:=AnU f h1 h2
  unfold Sc.upd
  rw[h3]
  unfold ScA.setN ScA.er
  simp only[List.map_set,hn]
theorem AeY{i j:Nat}{s:ScA}{t:ByteArray}{n n':NmA}(h:WMr e r w a l)(hs:a.scs[i]? = some s)(hj:s.names[j]? = some (t,n))(hb:n'.bn=n.bn):a.Le (a.setS i (s.setN j t n')):=by
  have hsok:=h.2.sc s (List.mem_of_getElem? hs)
  have hget:ZJ s.names t=some n:=CP hsok.m.nodup hj
  have hkeys:(s.setN j t n').names.map (·.1)=s.names.map (·.1):=by
    unfold ScA.setN
    rw[List.map_set]
    exact PT _ _ _ (by rw[List.getElem?_map,hj];rfl)
  refine WA.le_set hs rfl fun t' m hm => ?_
  by_cases ht:t'=t
  · subst ht
    rw[hget] at hm;cases hm
    exact⟨n',CP (by rw[hkeys];exact hsok.m.nodup) (AcD hj n'),hb⟩
  · refine⟨m,?_,rfl⟩
    obtain⟨k,hk⟩:=BP hm
    refine CP (by rw[hkeys];exact hsok.m.nodup) (j:=k) ?_
    unfold ScA.setN
    rw[List.getElem?_set,if_neg,hk]
    intro hjk
    subst hjk
    rw[hj] at hk
    simp only[Option.some.injEq,Prod.mk.injEq] at hk
    exact ht hk.1.symm
theorem NY(p:Wp)(i:Nat)(f g:Sc→Sc):(p.mod i f).mod i g=p.mod i (fun s=>g (f s)):=by
  unfold Wp.mod
  simp only[Wp.mk.injEq,and_self,and_true]
  apply List.ext_getElem?
  intro j
  simp only[List.getElem?_modify]
  split
  · cases p.scs[j]? <;> simp_all
  · cases p.scs[j]? <;> rfl
theorem Ami(h:WMr e r w a l){i:Nat}{s:ScA}(hs:a.scs[i]? = some s)(t:ByteArray)(at_:Int)(bound:Bool){K:Unit→World→Prop}
    (c:∀ a' s' w',WMr e r w' a' l→a'.scs[i]? = some s'→a.Le a'→a'.er=a.er.occ i t at_ bound→s'.bs=s.bs→a'.lat=a.lat→K () w'):YU (some ⟨s.bs,0,none⟩) t at_ bound K w:=by
  refine Abg _ _ _ _ _ _ ?_
  unfold PH
  refine ApL h hs t fun a1 s1 n w1 h1 hs1 hle1 her1 hg1 hb1 hlat1 => ?_
  obtain⟨j,hj⟩:=BP hg1
  have hok1:=h1.2.sc s1 (List.mem_of_getElem? hs1)
  -- the ending
  let n1:NmA:={ n with n:={ n.n with at_:=if !n.n.occurs || decide (at_<n.n.at_) then at_ else n.n.at_ } }
  have k0:∀ {w2:World},WMr e r w2 (a1.setS i (s1.setN j t n1)) l→XT (Rt QK K) bound (some ⟨n.bn,0,none⟩) w2:=by
    intro w2 h2
    unfold XT
    have hs2:=SW hs1 (s1.setN j t n1)
    have hj2:=AcD hj n1
    have hc2:=h2.nm hs2 hj2
    refine JM rfl (HT (x:=n.n.bound) (hc2 2 _ rfl) ?_)
    have wr:∀ v:Bool,v=(n.n.bound || bound)→(nn (some (⟨n.bn,0,none⟩:Addr)) fun a9=>HN a9 true (fun w=>nn (some (⟨n.bn,0,none⟩:Addr)) fun a10=>HN (a10.add 2) v (fun w=>Rt QK K (.tuple #[]) w) w) w2):=by
      intro v hv
      have hb2:w2.heap[n.bn]? = some (.cells n1.cells 107 (0,0)):=by
        refine h2.1.heap (List.mem_append_left _ (List.mem_append_right _ (List.mem_flatMap.2 ⟨_,List.mem_of_getElem? hs2,List.mem_append_right _ (List.mem_flatMap.2 ⟨(t,n1),List.mem_of_getElem? hj2,?_⟩)⟩)))
        simp[NmA.en,n1]
      let n2:NmA:={ n1 with n:={ n1.n with occurs:=true } }
      let n3:NmA:={ n2 with n:={ n2.n with bound:=v } }
      refine JM rfl (KJ hb2 (by rw[NmA.size];decide) fun w3 hset3 => ?_)
      have h3:=h2.nmSet (n':=n2) hs2 hj2 rfl rfl rfl rfl rfl hset3
      rw[Amr,Amq] at h3
      have hs3:=SW hs1 (s1.setN j t n2)
      have hj3:=AcD hj n2
      have hb3:w3.heap[n.bn]? = some (.cells n2.cells 107 (0,0)):=hset3.get (ZC hb2)
      refine JM rfl ?_
      show HN ⟨n.bn,2,none⟩ v _ w3
      refine KJ hb3 (by rw[NmA.size];decide) fun w4 hset4 => ?_
      have h4:=h3.nmSet (n':=n3) hs3 hj3 rfl rfl rfl rfl rfl hset4
      rw[Amr,Amq] at h4
      refine Rt.mk (h:=QK) () (c _ _ w4 h4 (SW hs1 _) (hle1.trans (AeY h1 hs1 hj rfl)) ?_ hb1 hlat1)
      rw[Akg (f:=Nm.occ at_ bound) hok1 hs1 hj (by
        show(⟨true,_,v,_,_,_⟩:Nm)=_
        rw[hv];rfl),her1,NY]
      rfl
    refine JE (fun hb=>wr true (by rw[hb];rfl)) (fun hb=>wr bound (by rw[hb];simp))
  have hc1:=h1.nm hs1 hj
  have hb1':w1.heap[n.bn]? = some (.cells n.cells 107 (0,0)):=by
    refine h1.1.heap (List.mem_append_left _ (List.mem_append_right _ (List.mem_flatMap.2 ⟨_,List.mem_of_getElem? hs1,List.mem_append_right _ (List.mem_flatMap.2 ⟨(t,n),List.mem_of_getElem? hj,?_⟩)⟩)))
    simp[NmA.en]
  have wr:(!n.n.occurs || decide (at_<n.n.at_))=true→(nn (some (⟨n.bn,0,none⟩:Addr)) fun a4=>YX (a4.add 1) at_ (fun w=>XT (Rt QK K) bound (some ⟨n.bn,0,none⟩) w) w1):=by
    intro hcond
    refine JM rfl ?_
    show YX ⟨n.bn,1,none⟩ at_ _ w1
    refine MB hb1' (by rw[NmA.size];decide) fun w2 hset2=>k0 ?_
    refine h1.nmSet (n':=n1) hs1 hj rfl rfl rfl rfl rfl ?_
    have:n1.cells=ZI n.cells 1 [.int .i64 at_]:=by
      show NmA.cells { n with n:={ n.n with at_:=if !n.n.occurs || decide (at_<n.n.at_) then at_ else n.n.at_ } }=_
      rw[if_pos hcond];rfl
    rw[this]
    exact hset2
  have no:(!n.n.occurs || decide (at_<n.n.at_))=false→XT (Rt QK K) bound (some ⟨n.bn,0,none⟩) w1:=by
    intro hcond
    refine k0 ?_
    have:n1=n:=by
      show({ n with n:={ n.n with at_:=if !n.n.occurs || decide (at_<n.n.at_) then at_ else n.n.at_ } }:NmA)=n
      rw[hcond];rfl
    rw[this]
    have h5:s1.setN j t n=s1:=by unfold ScA.setN;rw[PT _ _ _ hj]
    have h6:a1.setS i s1=a1:=by unfold WA.setS;rw[PT _ _ _ hs1]
    rw[h5,h6];exact h1
  refine JM rfl (HT (x:=n.n.occurs) (by simpa [JP] using hc1 0 _ rfl) ?_)
  refine JE (fun hb=>wr (by rw[hb];rfl)) (fun hb => ?_)
  refine JM rfl (JO (x:=n.n.at_) (hc1 1 _ rfl) ?_)
  exact JE (fun hb2=>wr (by rw[hb2];simp)) (fun hb2=>no (by rw[hb,hb2];rfl))
end
end Go.Proofs.YtjiagmjfnbljjaaGreatDoor
end
section
namespace Go.Proofs.YtjiagmjfnbljjaaGreatDoor
open Go Go.MapKept
set_option maxHeartbeats 4000000
set_option linter.unusedVariables false
set_option linter.unusedSimpArgs false
def Aqh(x y:Int):Int:=if decide (x<y) then -1 else if decide (x > y) then 1 else 0
theorem AjX{w:World}{x y:Int}{K:Int→World→Prop}(c:K (Aqh x y) w):OL x y K w:=by
  refine Adv _ _ _ _ ?_
  unfold Aam
  have nan:∀ {z:Int} {K:Bool→World→Prop},K false w→FU z K w:=by
    intro z K k
    refine AfT _ _ _ ?_
    unfold AcO
    refine Rt.mk (h:=JS) (z != z) ?_
    rw[bne_self_eq_false];exact k
  refine nan (nan ?_)
  unfold Aqh at c
  refine ZH rfl (ZH rfl (JE (fun hb => ?_) (fun hb => ?_)))
  · rw[if_pos hb] at c;exact Rt.mk (h:=QC .i64) (-1:Int) c
  · rw[if_neg (ne_true_of_eq_false hb)] at c
    refine JE (fun hb => ?_) (fun hb => ?_)
    · rw[if_pos hb] at c;exact Rt.mk (h:=QC .i64) (1:Int) c
    · rw[if_neg (ne_true_of_eq_false hb)] at c;exact Rt.mk (h:=QC .i64) (0:Int) c
theorem Avz{w:World}{x y:Int}{ad:Addr}(ha:JD w ad [.int .i64 x,.int .i64 y]){K:Int→World→Prop}(c:K (if x != 0 then x else y) w):AbP ⟨some ad,2,2⟩ K w:=by
  refine AiX _ _ _ ?_
  unfold AgG
  refine YE (fun n (i:Int) w'=>w'=w∧((n=2∧i=0)∨(n=1∧i=1∧x=0)∨(n=0∧i=2∧x=0∧y=0))) 2 (0:Int) rfl ⟨rfl,.inl ⟨rfl,rfl⟩⟩ ?_
  rintro n i w' ⟨hw,⟨rfl,rfl⟩ | ⟨rfl,rfl,hx⟩ | ⟨rfl,rfl,hx,hy⟩⟩ again hag<;>subst hw
  · refine VF (by simp) (JM rfl ⟨by decide,by simp,JO (x:=x) (by simpa [JP] using ha 0 _ rfl) (JE (fun hb => ?_) (fun hb => ?_))⟩)
    · rw[if_pos hb] at c;exact Rt.mk (h:=QC .i64) x c
    · exact hag 1 1 _ (by decide) ⟨rfl,.inr (.inl ⟨rfl,rfl,by simpa using hb⟩)⟩
  · subst hx
    refine VF (by simp) (JM rfl ⟨by decide,by simp,JO (x:=y) (by simpa using ha 1 _ rfl) (JE (fun hb => ?_) (fun hb => ?_))⟩)
    · exact Rt.mk (h:=QC .i64) y c
    · exact hag 0 2 _ (by decide) ⟨rfl,.inr (.inr ⟨rfl,rfl,rfl,by simpa using hb⟩)⟩
  · subst hx hy
    exact ZH (by simp) (Rt.mk (h:=QC .i64) (0:Int) c)
theorem me0{α:Type}{x:α}{l:List α}:x∈x :: l:=List.mem_cons_self
theorem me1{α:Type}{x y:α}{l:List α}:x∈y :: x :: l:=List.mem_cons_of_mem _ me0
theorem me2{α:Type}{x y z:α}{l:List α}:x∈y :: z :: x :: l:=List.mem_cons_of_mem _ me1
section
variable{e:We}{r:Fz}{w w':World}{a:WA}{l:List En}
def WA.flt(a:WA)(code at_:Int):WA:={ a with code:=code,at_:=at_ }
theorem WMr.flSet(h:WMr e r w a l){code at_:Int}(hset:HZ w e.bl (.cells #[.int .i64 code,.int .i64 at_] 32) w'):WMr e r w' (a.flt code at_) l:=by
  have p:∀ (x y:En) (m:List En),(x :: y :: m).Perm (y :: x :: m):=fun x y m=>.swap _ _ _
  refine h.put (b:=e.bl) (o:=.cells #[.int .i64 a.code,.int .i64 a.at_] 32) (p _ _ _) hset (p _ _ _) ⟨h.2.sc,fun la hla=>(h.2.la la hla).le fun i s hs=>⟨s,hs,rfl,fun t n hn=>⟨n,hn,rfl⟩⟩⟩
theorem WMr.flHeap(h:WMr e r w a l):w.heap[e.bl]? = some (.cells #[.int .i64 a.code,.int .i64 a.at_] 32 (0,0)):=h.1.heap (by simp[WA.en,WA.top])
theorem AlZ(h:WMr e r w a l)(code at_:Int)(wrong:Bool){K:Unit→World→Prop}
    (c:∀ a' w',WMr e r w' a' l→a'.scs=a.scs∧a'.lat=a.lat∧a'.Lt=a.Lt→a'.er=a.er.fault code at_ wrong→K () w'):NG code at_ wrong ⟨e.bl,0,none⟩ K w:=by
  refine Ae2 _ _ _ _ _ _ ?_
  unfold Abp
  have hcond:a.er.fault code at_ wrong=if wrong && (a.code==0 || (decide (at_<a.at_) || (at_==a.at_ && decide (code<a.code)))) then(a.flt code at_).er else a.er:=rfl
  rw[hcond] at c
  refine h.dw fun w h => ?_
  refine⟨fun w'=>JD w' ⟨e.bl,0,none⟩ [.int .i64 a.code,.int .i64 a.at_],h.flt,?_⟩
  have yes:(wrong && (a.code==0 || (decide (at_<a.at_) || (at_==a.at_ && decide (code<a.code)))))=true→∀ {w:World},WMr e r w a l→ZO ⟨e.bl,0,none⟩ ⟨code,at_⟩ (fun w=>Rt QK K (.tuple #[]) w) w:=by
    intro hy w h
    rw[if_pos hy] at c
    refine YH h.flHeap (Nat.le_of_eq rfl) fun w' hset => ?_
    rw[QH (by rfl)] at hset
    exact Rt.mk (h:=QK) () (c _ w' (h.flSet hset) ⟨rfl,rfl,rfl⟩ rfl)
  have no:(wrong && (a.code==0 || (decide (at_<a.at_) || (at_==a.at_ && decide (code<a.code)))))=false→∀ {w:World},WMr e r w a l→Rt QK K (.tuple #[]) w:=by
    intro hn w h
    rw[if_neg (ne_true_of_eq_false hn)] at c
    exact Rt.mk (h:=QK) () (c _ w h ⟨rfl,rfl,rfl⟩ rfl)
  refine JE (fun hb => ?_) (fun hb=>⟨h.flt,no (by rw[hb];rfl) h⟩)
  subst hb
  refine JV (x:=a.code) (fun w' h=>by simpa [JP] using h 0 _ rfl) (JE (fun hb => ?_) (fun hb => ?_))
  · exact⟨h.flt,yes (by rw[hb];rfl) h⟩
  · refine JV (x:=a.at_) (fun w' h=>h 1 _ rfl) (JV (x:=a.code) (fun w' h=>by simpa [JP] using h 0 _ rfl) ?_)
    refine AjX ⟨h.flt,AjX ?_⟩
    refine h.bx fun b w h => ?_
    refine Avz (h.cells me0) ?_
    have h:=h.sub (l':=l) (List.sublist_cons_self _ _)
    have key:decide ((if Aqh at_ a.at_ != 0 then Aqh at_ a.at_ else Aqh code a.code)<0)=(decide (at_<a.at_) || (at_==a.at_ && decide (code<a.code))):=by
      unfold Aqh
      by_cases h1:at_<a.at_
      · simp[h1]
      · by_cases h2:at_ > a.at_
        · have:¬ at_=a.at_:=by omega
          simp[h1,h2,this]
        · have:at_=a.at_:=by omega
          by_cases h3:code<a.code
          · simp[this,h3]
          · by_cases h4:code > a.code
            · simp[this,h3,h4]
            · simp[this,h3,h4]
    refine JE (fun hb2=>yes ?_ h) (fun hb2=>no ?_ h)
    · rw[key] at hb2;rw[hb2];simp
    · rw[key] at hb2;rw[hb,hb2];rfl
theorem ArE(h:WMr e r w a l)(code at_:Int)(wrong:Bool){K:Unit→World→Prop}
    (c:∀ a' w',WMr e r w' a' l→a'.scs=a.scs→a'.lat=a.lat→a'.er=a.er.fault code at_ wrong→K () w'):NG code at_ wrong ⟨e.bl,0,none⟩ K w:=
  AlZ h code at_ wrong fun a' w' h h1 h2=>c a' w' h h1.1 h1.2.1 h2
theorem WF(h:WMr e r w a l)(code at_:Int)(wrong:Bool){K:Unit→World→Prop}
    (c:∀ a' w',WMr e r w' a' l→a'.scs=a.scs∧a'.lat=a.lat∧a'.Lt=a.Lt→a'.er=a.er.fault code at_ wrong→K () w'):clv (UC e.bl) #[.int .i64 code,.int .i64 at_,.bool wrong] QK K w:=
  ⟨18,#[.pointer (some ⟨e.bl,0,none⟩)],rfl,rfl,AlZ h code at_ wrong c⟩
theorem Abu(h:WMr e r w a l)(code at_:Int)(wrong:Bool){K:Unit→World→Prop}
    (c:∀ a' w',WMr e r w' a' l→a'.scs=a.scs→a'.lat=a.lat→a'.er=a.er.fault code at_ wrong→K () w'):clv (UC e.bl) #[.int .i64 code,.int .i64 at_,.bool wrong] QK K w:=
  ⟨18,#[.pointer (some ⟨e.bl,0,none⟩)],rfl,rfl,ArE h code at_ wrong c⟩
theorem AhO{a a':WA}(h:a'.scs=a.scs):a.Le a':=fun i s hs=>⟨s,by rw[h];exact hs,rfl,fun t n hn=>⟨n,hn,rfl⟩⟩
theorem Atl(h:WMr e r w a l){n:Nd}{x:JA}(hat:x.At=n.at_)(hk:x.Kids.n=n.kids.length){K:Unit→World→Prop}
    (c:∀ a' w',WMr e r w' a' l→a'.scs=a.scs→a'.lat=a.lat→a'.er=a.er.many n→K () w'):DK (some ⟨e.bw,0,none⟩) x K w:=by
  refine Aca _ _ _ _ ?_
  unfold RR
  refine h.bx fun b w h=>h.dw fun w h => ?_
  refine⟨fun w'=>JD w' ⟨e.bw,0,none⟩ [a.L.v,UC e.bl,a.Lt.v]∧JD w' ⟨b,0,none⟩ x.cells.toList,⟨h.top,h.cells me0⟩,JM rfl ?_⟩
  refine BH (x:=⟨18,#[.pointer (some ⟨e.bl,0,none⟩)]⟩) (fun w' h=>h.1 1 _ rfl) ?_
  refine JV (x:=x.At) (fun w' h=>h.2 1 _ rfl) (ZY (x:=x.Kids) (fun w' h=>h.2 5 _ rfl) ?_)
  refine Abu h _ _ _ fun a' w' h' h1 h2 h3=>Rt.mk (h:=QK) () (c a' w' (h'.sub (List.sublist_cons_self _ _)) h1 h2 ?_)
  rw[h3,hat,hk];rfl
end
end Go.Proofs.YtjiagmjfnbljjaaGreatDoor
end
section
namespace Go.Proofs.YtjiagmjfnbljjaaGreatDoor
open Go Go.MapKept
set_option maxHeartbeats 4000000
set_option linter.unusedVariables false
set_option linter.unusedSimpArgs false
theorem Avq:SlT 57 65 1 8:=.mk (by kernel_rfl) (by decide) (by kernel_rfl)
theorem Avp:SlT 58 1 1 8:=.mk (by kernel_rfl) (by decide) (by kernel_rfl)
theorem Avr:SlT 76 9 1 16:=.mk (by kernel_rfl) (by decide) (by kernel_rfl)
section
variable{e:We}{r:Fz}{w w':World}{a:WA}{l:List En}
theorem ApM(h:WMr e r w a l)(kind around:Int)(x:JA)(hlen:a.scs.length<2147483648){K:JB→World→Prop}
    (c:∀ a' w',WMr e r w' a' l→a.Le a'→a'.er=a.er.open_ kind x.At around→a'.lat=a.lat→a'.scs.length=a.scs.length+1→K ⟨(a.scs.length:Int),false,false⟩ w'):US (some ⟨e.bw,0,none⟩) kind x around K w:=by
  refine Acd _ _ _ _ _ _ ?_
  unfold RT
  refine h.bx fun b1 w h=>h.bx fun b2 w h=>h.dw fun w h => ?_
  refine⟨fun w'=>JD w' ⟨e.bw,0,none⟩ [a.L.v,UC e.bl,a.Lt.v]∧JD w' ⟨b1,0,none⟩ x.cells.toList,⟨h.top,h.cells me1⟩,JM rfl ?_⟩
  refine VA (x:=a.L) (fun w' h=>by simpa [JP] using h.1 0 _ rfl) (JV (x:=x.At) (fun w' h=>h.2 1 _ rfl) ?_)
  refine ArW h fun mp w h=>⟨⟨h.top,h.cells me2⟩,h.bx fun bs w h=>⟨⟨h.top,h.cells (List.mem_cons_of_mem _ me2)⟩,h.bx fun b9 w h=>⟨⟨h.top,h.cells (List.mem_cons_of_mem _ (List.mem_cons_of_mem _ me2))⟩,?_⟩⟩⟩
  -- the append
  let R:List En:=[.box e.bl (.cells #[.int .i64 a.code,.int .i64 a.at_] 32),.row 1 1 a.Lt (a.lat.map LaA.v)] ++ (a.scs.flatMap ScA.en++l)
  let wb:Sl→En:=fun L=>.box e.bw (.cells #[L.v,UC e.bl,a.Lt.v] 60)
  let n1:En:=.box b1 (.cells x.cells 27)
  let pl:En:=.box b2 (.cells #[.int .i64 0,.bool false,.bool false] 63)
  let mb:En:=.box mp (.map #[] 0)
  let sb:En:=.box bs (.cells #[.int .i64 kind,.int .i64 x.At,.int .i64 around,.map (some mp),.slice none 0 0,.int .i64 0] 95)
  let pb:En:=.box b9 (.cells #[.pointer (some ⟨bs,0,none⟩)] 65)
  have hz:Mz e.w0.heap.size (XW e.w0 r) w (.row 65 1 a.L (a.scs.map ScA.ptr) :: (wb a.L :: pb :: sb :: mb :: pl :: n1 :: R)):=by
    refine h.1.perm ?_
    classical
    refine List.perm_iff_count.2 fun z => ?_
    simp only[WA.en,WA.top,R,wb,n1,pl,mb,sb,pb,List.count_append,List.count_cons,List.count_nil]
    omega
  have hrow:=h.rowL
  have YV:=h.cells (b:=b9) (cs:=#[.pointer (some ⟨bs,0,none⟩)]) (t:=65) me0
  refine hz.app Avq (src:=⟨some ⟨b9,0,none⟩,1,1⟩) (news:=[.pointer (some ⟨bs,0,none⟩)]) ⟨nofun,fun a' ha => ?_⟩ rfl (by simp[MH]) (by simp only;omega) (by decide) fun L' w1 hL' hz1 => ?_
  · simp only[Option.some.injEq] at ha
    subst ha
    exact YV
  have hbw:w1.heap[e.bw]? = some (.cells #[a.L.v,UC e.bl,a.Lt.v] 60 (0,0)):=hz1.heap (List.mem_cons_of_mem _ me0)
  have hb1:w1.heap[b1]? = some (.cells x.cells 27 (0,0)):=hz1.heap (by simp[n1])
  refine⟨⟨.all hbw,.all hb1⟩,JM rfl (Afa hbw (Nat.le_of_ble_eq_true rfl) fun w2 hset => ?_)⟩
  have hz2:=(hz1.perm (.swap _ _ _)).set (k:=0) rfl hset
  let s':ScA:=⟨kind,x.At,around,[],[],0,bs,mp,#[],0,⟨none,0,0⟩⟩
  let a':WA:={ a with scs:=a.scs ++ [s'],L:=L' }
  have hz3:=hz2.nil_row 9 1
  have hle:a.Le a':=fun i s hs=>⟨s,by show(a.scs ++ [s'])[i]? = _;rw[List.getElem?_append_left (List.getElem?_eq_some_iff.1 hs).1];exact hs,rfl,fun t n hn=>⟨n,hn,rfl⟩⟩
  have h3:WMr e r w2 a' (pl :: l):=by
    refine⟨(hz3.perm (l':=(a'.en e.bw e.bl++(pl :: l)) ++ [pb,n1]) ?_).sub (List.sublist_append_left _ _),fun s hs => ?_,fun la hla=>(h.2.la la hla).le hle⟩
    · classical
      refine List.perm_iff_count.2 fun z => ?_
      have hw:(ZI #[a.L.v,UC e.bl,a.Lt.v] 0 [L'.v])=#[L'.v,UC e.bl,a.Lt.v]:=rfl
      have hp:(a.scs ++ [s']).map ScA.ptr=a.scs.map ScA.ptr ++ [.pointer (some ⟨bs,0,none⟩)]:=by rw[List.map_append];rfl
      have hs:(a.scs ++ [s']).flatMap ScA.en=a.scs.flatMap ScA.en ++ [sb,mb,.row 9 1 ⟨none,0,0⟩ []]:=by rw[List.flatMap_append];rfl
      simp only[WA.en,WA.top,a',hw,hp,hs,List.set_cons_zero,R,wb,List.count_append,List.count_cons,List.count_nil]
      omega
    · have hs:s∈a.scs ++ [s']:=hs
      rcases List.mem_append.1 hs with hs | hs
      · exact h.2.sc s hs
      · rw[List.mem_singleton] at hs
        subst hs
        exact⟨.nil 0,nofun⟩
  have hn':L'.n=a.scs.length+1:=by rw[hL'];have:=hrow.2;simp only;omega
  refine JM rfl (FF (x:=L') (by simpa [JP] using h3.top 0 _ rfl) ?_)
  have hw:IntKind.i64.wrap ((L'.n:Int) - 1)=(a.scs.length:Int):=by rw[JY (by omega) (by omega)];omega
  rw[hw]
  have hpl:w2.heap[b2]? = some (.cells #[.int .i64 0,.bool false,.bool false] 63 (0,0)):=h3.1.heap (List.mem_append_right _ me0)
  refine HO hpl (Nat.le_of_eq rfl) fun w3 hset3 => ?_
  rw[QH (by rfl)] at hset3
  have h4:=h3.set (k:=0) rfl hset3
  refine Ahd (h4.cells me0) (Rt.mk (h:=DD) ⟨(a.scs.length:Int),false,false⟩ (c a' w3 (h4.sub (List.sublist_cons_self _ _)) hle ?_ rfl (by show(a.scs ++ [s']).length=_;simp)))
  show Wp.mk _ _ _ _=Wp.mk _ _ _ _
  rw[List.map_append]
  rfl
end
end Go.Proofs.YtjiagmjfnbljjaaGreatDoor
end
section
namespace Go.Proofs.YtjiagmjfnbljjaaGreatDoor
open Go
set_option maxHeartbeats 4000000
def Sc.few(c:Int)(s:Sc):Prop:=0≤s.tries∧s.tries≤c∧(s.params.length:Int)≤c
structure Wp.sub(p q:Wp)(d:Nat):Prop where
  ge:p.scs.length≤q.scs.length
  scs:q.scs.length≤p.scs.length+d
  lat:q.lat.length≤p.lat.length+d
  few:∀ c:Int,0≤c→(∀ s∈p.scs,s.few c)→∀ s∈q.scs,s.few (c+d)
theorem Sc.few.mono{c c':Int}{s:Sc}(h:s.few c)(hc:c≤c'):s.few c':=⟨h.1,Int.le_trans h.2.1 hc,Int.le_trans h.2.2 hc⟩
theorem Wp.sub_refl(p:Wp):p.sub p 0:=⟨Nat.le_refl _,Nat.le_refl _,Nat.le_refl _,fun c _ h s hs=>(h s hs).mono (by simp)⟩
theorem Wp.sub_mono{p q:Wp}{d d':Nat}(h:p.sub q d)(hd:d≤d'):p.sub q d':=⟨h.ge,Nat.le_trans h.scs (by omega),Nat.le_trans h.lat (by omega),fun c h0 hc s hs=>(h.few c h0 hc s hs).mono (by omega)⟩
theorem Wp.sub_trans{p q r:Wp}{d d':Nat}(h:p.sub q d)(k:q.sub r d'):p.sub r (d+d'):=⟨Nat.le_trans h.ge k.ge,by have:=h.scs;have:=k.scs;omega,by have:=h.lat;have:=k.lat;omega,fun c h0 hc s hs=>(k.few (c+d) (by omega) (h.few c h0 hc) s hs).mono (by omega)⟩
theorem Wp.sub_modN(p:Wp)(i:Nat)(f:Sc→Sc)(d:Nat)(hf:∀ s c,0≤c→s.few c→(f s).few (c+d)):p.sub (p.mod i f) d:=by
  have:(p.mod i f).scs.length=p.scs.length:=by unfold Wp.mod;simp
  refine⟨by omega,by omega,by unfold Wp.mod;simp,fun c h0 hc s hs => ?_⟩
  have hs:s∈p.scs.modify i f:=hs
  obtain⟨j,hj⟩:=List.mem_iff_getElem?.1 hs
  rw[List.getElem?_modify] at hj
  cases hp:p.scs[j]? with
  | none=>rw[hp] at hj;simp at hj
  | some x=>
    rw[hp] at hj
    simp only[Option.map_eq_map,Option.map_some,Option.some.injEq] at hj
    have hx:=hc x (List.mem_of_getElem? hp)
    split at hj
    · rw[← hj];exact hf x c h0 hx
    · rw[← hj];exact hx.mono (by omega)
theorem Wp.sub_mod(p:Wp)(i:Nat)(f:Sc→Sc)(hf:∀ s,(f s).tries=s.tries∧(f s).params=s.params):p.sub (p.mod i f) 0:=
  Wp.sub_modN p i f 0 fun s c _ h=>by obtain⟨h1,h2⟩:=hf s;unfold Sc.few at *;rw[h1,h2];simpa using h
theorem Aep(t:ByteArray)(s:Sc):(s.of t).tries=s.tries∧(s.of t).params=s.params:=by unfold Sc.of;split<;>exact⟨rfl,rfl⟩
theorem ApK(t:ByteArray)(a:Int)(b:Bool)(s:Sc):(s.occ t a b).tries=s.tries∧(s.occ t a b).params=s.params:=Aep t s
theorem Wp.sub_occ(p:Wp)(i:Nat)(t:ByteArray)(a:Int)(b:Bool):p.sub (p.occ i t a b) 0:=Wp.sub_mod _ _ _ (ApK t a b)
theorem Wp.sub_fault(p:Wp)(c a:Int)(b:Bool):p.sub (p.fault c a b) 0:=by
  unfold Wp.fault
  split
  · have:=Wp.sub_refl p
    exact⟨this.ge,this.scs,this.lat,this.few⟩
  · exact Wp.sub_refl p
theorem Wp.sub_many(p:Wp)(n:Nd):p.sub (p.many n) 0:=Wp.sub_fault _ _ _ _
theorem Wp.sub_open(p:Wp)(k a r:Int):p.sub (p.open_ k a r) 1:=⟨by simp[Wp.open_],by simp[Wp.open_],by simp[Wp.open_],fun c h0 hc s hs=>by
  have hs:s∈p.scs ++ [⟨k,a,r,[],[],0⟩]:=hs
  rcases List.mem_append.1 hs with hs | hs
  · exact(hc s hs).mono (by omega)
  · rw[List.mem_singleton] at hs
    subst hs
    exact⟨Int.le_refl 0,by show(0:Int)≤_;omega,by show((0:Nat):Int)≤_;omega⟩⟩
theorem Wp.sub_twice:∀ (l:List Nd) (pre:List ByteArray) (p:Wp),p.sub (AD pre l p) 0
  | [],_,p=>Wp.sub_refl p
  | n :: l,pre,p=>by
    unfold AD
    exact Wp.sub_trans (d:=0) (d':=0) (Wp.sub_fault _ _ _ _) (Wp.sub_twice l _ _)
theorem Wp.sub_decl(kind:Int)(s:Nat)(k:Nd)(p:Wp):p.sub (PK kind s k p) 1:=by
  unfold PK
  have h1:=Wp.sub_trans (Wp.sub_trans (Wp.sub_mod p s (·.of k.text) (Aep k.text)) (Wp.sub_fault _ 114 k.at_ ((p.mod s (·.of k.text)).byOf s k.text != 0 && (p.mod s (·.of k.text)).byOf s k.text != kind))) (Wp.sub_mod _ s (fun c=>c.upd k.text fun n=>{ n with by_:=kind }) fun _=>⟨rfl,rfl⟩)
  refine⟨h1.ge,Nat.le_trans h1.scs (by omega),?_,fun c h0 hc s hs=>(h1.few c h0 hc s hs).mono (by omega)⟩
  have:=h1.lat
  unfold Wp.later
  simp only[List.length_append,List.length_cons,List.length_nil]
  omega
theorem Wp.sub_par(s:Nat)(k:Nd)(p:Wp):p.sub (NN s k p) 1:=Wp.sub_trans (d:=0) (d':=1) (Wp.sub_occ _ _ _ _ _) (Wp.sub_modN _ _ _ 1 fun c m h0 h=>by
  have h2:=Aep k.text c
  obtain⟨h3,h4,h5⟩:=h
  refine⟨?_,?_,?_⟩
  · show 0≤(c.of k.text).tries;rw[h2.1];exact h3
  · show(c.of k.text).tries≤_;rw[h2.1];omega
  · show((c.params ++ [k.text]).length:Int)≤_;rw[List.length_append];simp;omega)
theorem Wp.sub_fold{f:Wp→Nd→Wp}{g:Nd→Nat}:∀ (l:List Nd) (p:Wp),(∀ k∈l,∀ p:Wp,p.sub (f p k) (g k))→p.sub (l.foldl f p) ((l.map g).sum)
  | [],p,_=>Wp.sub_refl p
  | k :: r,p,h=>by
    simp only[List.foldl_cons,List.map_cons,List.sum_cons]
    exact Wp.sub_trans (h k (by simp) p) (Wp.sub_fold r _ fun k hk=>h k (by simp[hk]))
theorem MK{c:Prop}[Decidable c]{p a b:Wp}{d:Nat}(h1:p.sub a d)(h2:p.sub b d):p.sub (if c then a else b) d:=by
  split
  · exact h1
  · exact h2
theorem ApG(f:Nat)(tgt:Bool)(s:Nat)(lp ex:Bool)(p:Wp):ndS f tgt nd0 s lp ex p=p:=by
  cases f with
  | zero=>rfl
  | succ f=>cases tgt<;>rfl
theorem Aht:∀ l:List Nd,(l.map Nd.wt).sum=Nd.wts l
  | []=>rfl
  | k :: r=>by simp only[List.map_cons,List.sum_cons,Nd.wts,Aht r]
theorem AmB:∀ (l:List Nd) (i:Nat),Nd.wts (l.take i)≤Nd.wts l
  | [],i=>by simp[Nd.wts]
  | k :: r,0=>by simp[Nd.wts]
  | k :: r,i+1=>by have:=AmB r i;simp only[List.take_succ_cons,Nd.wts];omega
theorem ApB:∀ (l:List Nd),2 * Nd.wts (l.take (l.length - 1))+kw l (l.length - 1)≤2 * Nd.wts l:=by
  intro l
  rw[← List.dropLast_eq_take]
  exact ApA l
theorem MW:∀ (f:Nat) (tgt:Bool) (n:Nd) (s:Nat) (lp ex:Bool) (p:Wp),p.sub (ndS f tgt n s lp ex p) n.wt
  | 0,_,n,_,_,_,p=>Wp.sub_mono (Wp.sub_refl p) (by omega)
  | f+1,tgt,n,s,lp,ex,p=>by
    have ih:=MW f
    have hw:=n.wt_eq
    have kid:∀ (tgt:Bool) (i s:Nat) (lp ex:Bool) (p:Wp),p.sub (ndS f tgt (n.kid i) s lp ex p) (kw n.kids i / 2):=by
      intro tgt i s lp ex p
      unfold Nd.kid kw
      cases hi:n.kids[i]? with
      | none=>
        have:n.kids.getD i nd0=nd0:=by simp[List.getD,hi]
        rw[this,ApG];exact Wp.sub_refl p
      | some k=>
        have:n.kids.getD i nd0=k:=by simp[List.getD,hi]
        rw[this];exact Wp.sub_mono (ih tgt k s lp ex p) (by simp)
    have all:∀ (tgt:Bool) (l:List Nd) (s:Nat) (lp ex:Bool) (p:Wp),p.sub (l.foldl (fun p k=>ndS f tgt k s lp ex p) p) (Nd.wts l):=by
      intro tgt l s lp ex p
      rw[← Aht]
      exact Wp.sub_fold l p fun k _ p=>ih tgt k s lp ex p
    have h3:=kw3 n.kids
    have h1:=kw1 n.kids
    unfold ndS
    simp only
    refine MK ?_ (MK ?_ (MK ?_ (MK ?_ (MK ?_ (MK ?_ (MK ?_ (MK ?_ (MK ?_ (MK ?_ (MK ?_ (MK ?_ (MK ?_ (MK ?_ (MK ?_ (MK ?_ ?_)))))))))))))))
    · exact Wp.sub_mono (Wp.sub_occ _ _ _ _ _) (by omega)
    · exact Wp.sub_mono (Wp.sub_trans (Wp.sub_many p n) (all true _ _ _ _ _)) (by omega)
    · exact Wp.sub_mono (Wp.sub_trans (kid true 0 _ _ _ _) (all false _ _ _ _ _)) (by omega)
    · exact Wp.sub_mono (Wp.sub_fault _ _ _ _) (by omega)
    · exact Wp.sub_mono (Wp.sub_trans (Wp.sub_fault _ _ _ _) (all false _ _ _ _ _)) (by omega)
    · exact Wp.sub_mono (Wp.sub_trans (Wp.sub_fault _ _ _ _) (all false _ _ _ _ _)) (by omega)
    · refine Wp.sub_mono (Wp.sub_fold (g:=fun _=>1) n.kids p fun k _ p=>Wp.sub_decl _ _ _ _) ?_
      have:(n.kids.map fun _=>1).sum=n.kids.length:=by
        generalize n.kids=l
        induction l with
        | nil=>rfl
        | cons k r ih=>simp only[List.map_cons,List.sum_cons,List.length_cons,ih];omega
      have:=Nd.wts_length n.kids
      omega
    · exact Wp.sub_mono (Wp.sub_trans (Wp.sub_trans (kid true 0 _ _ _ _) (kid false 1 _ _ _ _)) (kid false 2 _ _ _ _)) (by omega)
    · exact Wp.sub_mono (Wp.sub_trans (kid false 0 _ _ _ _) (kid false 1 _ _ _ _)) (by omega)
    · exact Wp.sub_mono (Wp.sub_trans (Wp.sub_modN _ _ _ 1 fun c m h0 h=>⟨by show 0≤c.tries+1;have:=h.1;omega,by show c.tries+1≤_;have:=h.2.1;omega,by show(c.params.length:Int)≤_;have:=h.2.2;omega⟩) (all false _ _ _ _ _)) (by omega)
    · refine Wp.sub_mono (Wp.sub_trans (Wp.sub_trans (d:=0) ?_ (kid false 0 _ _ _ _)) (kid false 1 _ _ _ _)) (by omega)
      exact MK (Wp.sub_refl _) (Wp.sub_occ _ _ _ _ _)
    · have hlast:=ApB n.kids
      have a1:=Wp.sub_trans (Wp.sub_trans (Wp.sub_occ p s n.text n.at_ true) (Wp.sub_fault _ 109 n.at_ (decide (((n.kids.length - 1:Nat):Int) > 1000)))) (Wp.sub_twice (n.kids.take (n.kids.length - 1)) [] _)
      refine Wp.sub_mono (Wp.sub_trans (Wp.sub_trans (Wp.sub_trans a1 (Wp.sub_open _ 2 n.at_ s)) (Wp.sub_fold (g:=Nd.wt) (n.kids.take (n.kids.length - 1)) _ fun k _ p => ?_)) (kid false (n.kids.length - 1) _ _ _ _)) (by rw[Aht];omega)
      have hk:=k.wt_eq
      exact Wp.sub_mono (Wp.sub_trans (Wp.sub_par _ _ _) (all false _ _ _ _ _)) (by omega)
    · exact Wp.sub_mono (Wp.sub_trans (Wp.sub_trans (Wp.sub_trans (Wp.sub_occ p s n.text n.at_ true) (Wp.sub_open _ 3 n.at_ s)) (kid false 0 _ _ _ _)) (kid false 1 _ _ _ _)) (by omega)
    · exact Wp.sub_mono (Wp.sub_trans (Wp.sub_trans (Wp.sub_trans (Wp.sub_trans (Wp.sub_open p 4 n.at_ s) (kid false 0 _ _ _ _)) (kid true 1 _ _ _ _)) (kid false 2 _ _ _ _)) (all false _ _ _ _ _)) (by omega)
    · exact Wp.sub_mono (Wp.sub_trans (Wp.sub_trans (Wp.sub_many p n) (Wp.sub_twice _ [] _)) (all false _ _ _ _ _)) (by omega)
    · exact Wp.sub_mono (Wp.sub_trans (Wp.sub_many p n) (all false _ _ _ _ _)) (by omega)
    · exact Wp.sub_mono (all false _ _ _ _ _) (by omega)
end Go.Proofs.YtjiagmjfnbljjaaGreatDoor
end
section
namespace Go.Proofs.YtjiagmjfnbljjaaGreatDoor
open Go Go.MapKept
set_option maxHeartbeats 4000000
set_option linter.unusedVariables false
set_option linter.unusedSimpArgs false
abbrev Cn(e:We)(r:Fz)(a:WA)(l:List En)(F:Wp→Wp)(K:Unit→World→Prop):Prop:=∀ r' a' w',WMr e r' w' a' l→(∀ q∈r,q∈r')→a.Le a'→a'.er=F a.er→K () w'
structure Bnd(a:WA)(k:Nat):Prop where
  scs:a.scs.length+k≤2147483648
  lat:a.lat.length+k≤2147483648
  few:∃ c:Int,0≤c∧c+k≤2147483648∧∀ s∈a.er.scs,s.few c
theorem EH(a:WA):a.er.scs.length=a.scs.length:=by unfold WA.er;simp
theorem AoI(a:WA):a.er.lat.length=a.lat.length:=by unfold WA.er;simp
theorem Bnd.sub{a a':WA}{k d:Nat}(h:Bnd a (k+d))(hs:a.er.sub a'.er d):Bnd a' k:=by
  have h1:=hs.scs
  have h2:=hs.lat
  rw[EH,EH] at h1
  rw[AoI,AoI] at h2
  obtain⟨c,hc0,hc,hf⟩:=h.few
  exact⟨by have:=h.scs;omega,by have:=h.lat;omega,c+d,by omega,by omega,hs.few c hc0 hf⟩
theorem Bnd.mono{a:WA}{k k':Nat}(h:Bnd a k)(hk:k'≤k):Bnd a k':=⟨by have:=h.scs;omega,by have:=h.lat;omega,by obtain⟨c,hc0,hc,hf⟩:=h.few;exact⟨c,hc0,by omega,hf⟩⟩
def NdW(e:We)(f:Nat):Prop:=∀ ⦃n:Nd⦄ ⦃x:JA⦄ ⦃s:Nat⦄ ⦃lp ex:Bool⦄ ⦃r:Fz⦄ ⦃w:World⦄ ⦃a:WA⦄ ⦃l:List En⦄ ⦃K:Unit→World→Prop⦄,n.wt<f→WMr e r w a l→Rep e.w0 e.w0.heap.size n x→vis n=true→s<a.scs.length→Bnd a n.wt→
  (Cn e r a l (ndS f false n s lp ex) K→ZF (some ⟨e.bw,0,none⟩) x ⟨(s:Int),lp,ex⟩ K w)∧
  (Cn e r a l (ndS f true n s lp ex) K→XO (some ⟨e.bw,0,none⟩) x ⟨(s:Int),lp,ex⟩ K w)
theorem AmC(l:List Nd)(k:Nat)(h:k<l.length):Nd.wts (l.take (k+1))=Nd.wts (l.take k)+l[k].wt:=by
  have ap:∀ a b:List Nd,Nd.wts (a++b)=Nd.wts a+Nd.wts b:=by
    intro a b
    induction a with
    | nil=>simp[Nd.wts]
    | cons k r ih=>simp only[List.cons_append,Nd.wts,ih];omega
  rw[List.take_succ_eq_append_getElem h,ap];simp[Nd.wts]
def EY(f:Nat)(tgt:Bool)(s:Nat)(lp ex:Bool)(ks:List Nd)(p:Wp):Wp:=ks.foldl (fun p k=>ndS f tgt k s lp ex p) p
section
variable{e:We}{r:Fz}{w w':World}{a:WA}{l:List En}{f:Nat}
theorem Atg(h:WMr e r w a l){ks:List Nd}{sl:Sl}(hr:HS e.w0 e.w0.heap.size ks sl){i:Nat}(hi:i<ks.length){K:JA→World→Prop}(c:∀ x,Rep e.w0 e.w0.heap.size ks[i] x→K x w) :
    nn sl.a fun a=>0≤(i:Int)∧(i:Int)<((sl.n:Nat):Int)∧JF (a.add ((i:Int).toNat * 6)) K w:=by
  obtain⟨p,x,ha,hb,hc,hx⟩:=hr.get hi
  have hn:=hr.1
  exact JM ha ⟨by omega,by omega,QV (by simpa using hc.ext h.base) (c x hx)⟩
theorem ArL{w0:World}{B:Nat}{S:World→Prop}(hS:∀ w',S w'→Ext w0 w'){ks:List Nd}{sl:Sl}(hr:HS w0 B ks sl){i:Nat}(hi:i<ks.length){K:JA→Prop}(c:∀ x,Rep w0 B ks[i] x→K x) :
    nn sl.a fun a=>0≤(i:Int)∧(i:Int)<((sl.n:Nat):Int)∧QB S (a.add ((i:Int).toNat * 6)) K:=by
  obtain⟨p,x,ha,hb,hc,hx⟩:=hr.get hi
  have hn:=hr.1
  exact JM ha ⟨by omega,by omega,PZ (fun w' hw=>by simpa using hc.ext (hS w' hw)) (c x hx)⟩
theorem Aun(hN:NdW e f){ks:List Nd}{sl:Sl}{s:Nat}{lp ex:Bool}{K:Unit→World→Prop}(hw:∀ k∈ks,k.wt<f)(h:WMr e r w a l)(hr:HS e.w0 e.w0.heap.size ks sl)(hv:∀ k∈ks,vis k=true)(hs:s<a.scs.length)(hb:Bnd a (Nd.wts ks))(c:Cn e r a l (EY f false s lp ex ks) K) :
    ZU (some ⟨e.bw,0,none⟩) sl ⟨(s:Int),lp,ex⟩ K w:=by
  refine Adk _ _ _ _ _ ?_
  unfold TW
  have hlen:=Nd.wts_length ks
  have hbs:=hb.scs
  refine h.bx fun bp w h => ?_
  have hn:=hr.1
  refine YE (fun m (i:Int) w'=>∃ (k:Nat) (r':Fz) (a':WA),i=k∧m+k=ks.length∧WMr e r' w' a' (.box bp (.cells (JB.cells ⟨(s:Int),lp,ex⟩) 63) :: l)∧(∀ q∈r,q∈r')∧a.Le a'∧a.er.sub a'.er (Nd.wts (ks.take k))∧EY f false s lp ex (ks.drop k) a'.er=EY f false s lp ex ks a.er) ks.length (0:Int) rfl ⟨0,r,a,rfl,rfl,h,fun _ h=>h,.refl a,by simpa [Nd.wts] using Wp.sub_refl a.er,rfl⟩ ?_
  clear h
  rintro m i w1 ⟨k,r1,a1,rfl,hm,h,hr1,hle,Aah,hfold⟩ again hag
  refine JE (fun hlt => ?_) (fun hge => ?_)
  · have hlt:k<ks.length:=by simp at hlt;omega
    refine Atg h hr hlt fun y hy => ?_
    have hmem:=List.getElem_mem hlt
    have htk:Nd.wts (ks.take k)+ks[k].wt≤Nd.wts ks:=by
      have:=AmB ks (k+1);rw[AmC ks k hlt] at this;exact this
    refine h.bx fun bn w h => ?_
    have hbn:w.heap[bn]? = some (.cells #[.int .i64 0,.int .i64 0,.string (⟨#[]⟩:ByteArray),.bool false,.slice none 0 0,.slice none 0 0] 27 (0,0)):=h.1.heap (List.mem_append_right _ me0)
    refine XH hbn (Nat.le_of_eq rfl) fun w hset => ?_
    rw[QH (by rfl)] at hset
    replace h:=h.set (k:=0) rfl hset
    have hcn:=h.cells (b:=bn) me0
    refine QV hcn (XF (x:=⟨(s:Int),lp,ex⟩) (h.cells me1) ?_)
    have hs1:s<a1.scs.length:=by have:=Aah.ge;rw[EH,EH] at this;omega
    have hb1:Bnd a1 ks[k].wt:=(hb.mono (by omega)).sub Aah
    refine(hN (hw _ hmem) h hy (hv _ hmem) hs1 hb1).1 fun r2 a2 w2 h2 hr2 hle2 her2 => ?_
    rw[ZS (n:=ks.length) (by omega) (by omega) (by omega)]
    refine hag (m - 1) ((k:Int)+1) w2 (by omega) ⟨k+1,r2,a2,by omega,by omega,h2.sub (List.sublist_cons_self _ _),fun q hq=>hr2 q (hr1 q hq),hle.trans hle2,?_,?_⟩
    · rw[AmC ks k hlt,her2]
      exact Wp.sub_trans Aah (MW f false _ s lp ex a1.er)
    · rw[← hfold,her2,List.drop_eq_getElem_cons hlt];rfl
  · have hge:k=ks.length:=by simp at hge;omega
    rw[hge,List.drop_length] at hfold
    exact Rt.mk (h:=QK) () (c r1 a1 w1 (h.sub (List.sublist_cons_self _ _)) hr1 hle hfold)
end
def Ajt(k:Int):Nat:=
  if k==4 || k==5 || k==6 || k==16 || k==20 || k==21 || k==22 then 2 else
  if k==7 || k==12 || k==18 then 1 else
  if k==17 || k==41 || k==42 || k==43 then 3 else 0
theorem AkQ{p:Kd→Bool}{l:List Kd}(h:Ads p l=true):l.length=1:=by
  rcases l with _ | ⟨a,_ | ⟨b,r⟩⟩<;>simp[Ads] at h ⊢
theorem AbH{p q:Kd→Bool}{l:List Kd}(h:Adt p q l=true):l.length=2:=by
  rcases l with _ | ⟨a,_ | ⟨b,_ | ⟨c,r⟩⟩⟩<;>simp[Adt] at h ⊢
theorem Asl{p q s:Kd→Bool}{l:List Kd}(h:AkR p q s l=true):l.length=3:=by
  rcases l with _ | ⟨a,_ | ⟨b,_ | ⟨c,_ | ⟨d,r⟩⟩⟩⟩<;>simp[AkR] at h ⊢
theorem AhV{p:Kd→Bool}{l:List Kd}(h:Ag1 p l=true):3≤l.length:=by
  rcases l with _ | ⟨a,_ | ⟨b,_ | ⟨c,r⟩⟩⟩<;>simp[Ag1] at h ⊢
theorem AsB{l:List Kd}(h:Aon l=true):2≤l.length:=by
  rcases l with _ | ⟨a,_ | ⟨b,r⟩⟩<;>simp[Aon] at h ⊢
theorem Aru{l:List Kd}(h:AnB l=true):1≤l.length:=by
  cases l with
  | nil=>simp[AnB] at h
  | cons a l=>simp
theorem Aqw(k:Int)(t:ByteArray)(l:List Kd)(h:kidsB k t l=true):Ajt k≤l.length:=by
  unfold Ajt
  split
  · rename_i hk
    simp only[Bool.or_eq_true,beq_iff_eq] at hk
    rcases hk with(((((hk | hk) | hk) | hk) | hk) | hk) | hk<;>subst hk<;>simp[kidsB] at h
    · exact Nat.le_of_eq (AbH h).symm
    · exact Nat.le_of_eq (AbH h).symm
    · exact Nat.le_of_eq (AbH h).symm
    · exact Nat.le_of_eq (AbH h).symm
    · exact Nat.le_of_eq (AbH h).symm
    · exact AsB h
    · exact Nat.le_of_eq (AbH h.1).symm
  · split
    · rename_i hk
      simp only[Bool.or_eq_true,beq_iff_eq] at hk
      rcases hk with(hk | hk) | hk<;>subst hk<;>simp[kidsB] at h
      · exact Nat.le_of_eq (AkQ h).symm
      · exact Nat.le_of_eq (AkQ h).symm
      · exact Aru h
    · split
      · rename_i hk
        simp only[Bool.or_eq_true,beq_iff_eq] at hk
        rcases hk with((hk | hk) | hk) | hk<;>subst hk<;>simp[kidsB] at h
        · exact Nat.le_of_eq (Asl h).symm
        · exact AhV h
        · exact AhV h
        · exact AhV h
      · exact Nat.zero_le _
theorem Amz{n:Nd}(h:vis n=true):right MD n=true∨(n.kind=0∧n.kids = []):=by
  unfold vis at h
  rcases (Bool.or_eq_true _ _▸h:right MD n=true∨AkH n=true) with h | h
  · exact .inl h
  · right
    unfold AkH at h
    simp_all
theorem AjD{n:Nd}(h:vis n=true):Ajt n.kind≤n.kids.length:=by
  rcases Amz h with h | ⟨h,_⟩
  · rw[CJ] at h
    unfold EW at h
    simp only[Bool.and_eq_true] at h
    have:=Aqw _ _ _ h.2
    simpa using this
  · rw[h];exact Nat.zero_le _
theorem AcM{n:Nd}(h:vis n=true):∀ k∈n.kids,vis k=true:=by
  rcases Amz h with h | ⟨_,h⟩
  · exact fun k hk=>AsN h hk
  · rw[h];exact nofun
end Go.Proofs.YtjiagmjfnbljjaaGreatDoor
end
section
namespace Go.Proofs.YtjiagmjfnbljjaaGreatDoor
open Go Go.MapKept
set_option maxHeartbeats 4000000
set_option linter.unusedVariables false
set_option linter.unusedSimpArgs false
theorem AnF{α:Type}(t u:ByteArray)(v:α):∀ l:List (ByteArray×α),(ZJ (CU l t v) u).isSome=((ZJ l u).isSome || decide (t=u))
  | []=>by
    unfold CU ZJ ZJ
    by_cases h:t=u<;>simp[h]
  | p :: l=>by
    unfold CU
    split
    · rename_i hp
      unfold ZJ
      by_cases h:t=u
      · simp[h]
      · rw[if_neg h,if_neg (by rw[hp];exact h)];simp[h]
    · rename_i hp
      unfold ZJ
      by_cases h:p.1=u
      · rw[if_pos h,if_pos h];rfl
      · rw[if_neg h,if_neg h];exact AnF t u v l
theorem ApF:PP.underlying 147=some (.map 9 3):=by kernel_rfl
theorem Aow(w:World):(zeroValue 3).run PP w = .ok (.int .i64 0) w:=by
  simp[zeroValue,Tryz.t3]
section
variable{e:We}{r:Fz}{w w':World}{a:WA}{l:List En}
theorem AqD{b:Nat}{es:Array MapEntry}{clock:Nat}{ks:List (ByteArray×Int)}(hb:w.heap[b]? = some (.map es clock))(hm:FC .string (.int .i64) es clock ks)(t:ByteArray){K:UT→World→Prop}(c:∀ v,K ⟨v,(ZJ ks t).isSome⟩ w):AbD (some b) t K w:=by
  have:=Aex (P:=PP) (w:=w) (ek:=Value.string) ApF Apa (Aow w) (fun _=>trivial) AeS hb hm t true
  refine YZ (h:=AX) ⟨(ZJ ks t).getD 0,(ZJ ks t).isSome⟩ ?_ (c _)
  rw[this]
  cases ZJ ks t with
  | none=>rfl
  | some n=>rfl
theorem Au9{b:Nat}{es:Array MapEntry}{clock:Nat}{ks:List (ByteArray×Int)}(hb:w.heap[b]? = some (.map es clock))(hm:FC .string (.int .i64) es clock ks)(t:ByteArray)(v:Int){K:World→Prop}(c:∀ es' clock' w',HZ w b (.map es' clock') w'→FC .string (.int .i64) es' clock' (CU ks t v)→K w'):Aem (some b) t v K w:=by
  obtain⟨es',clock',h1,h2⟩:=Am7 (P:=PP) (w:=w) (ek:=Value.string) ApF Apa (fun _=>trivial) AeS hb hm t v
  exact CW h1 (c es' clock' _ rfl h2)
def Src(e:We)(r:Fz)(l:List En)(sl:Sl)(ks:List Nd):Prop:=sl.n=ks.length∧∀ ⦃w:World⦄ ⦃a:WA⦄ ⦃l':List En⦄,WMr e r w a (l'++l)→∀ (i:Nat) (k:Nd),ks[i]? = some k→∃ (p:Addr) (x:JA),sl.a=some p∧JD w (p.add (i * 6)) x.cells.toList∧x.At=k.at_∧x.Text=k.text
theorem Src.tree{ks:List Nd}{sl:Sl}(hr:HS e.w0 e.w0.heap.size ks sl):Src e r l sl ks:=by
  refine⟨hr.1,fun w a l' h i k hk => ?_⟩
  have hi:=(List.getElem?_eq_some_iff.1 hk).1
  obtain⟨p,x,ha,hb,hc,hx⟩:=hr.get hi
  have hkk:ks[i] = k:=(List.getElem?_eq_some_iff.1 hk).2
  rw[hkk] at hx
  exact⟨p,x,ha,hc.ext h.base,hx.at_,hx.text⟩
theorem AsC{ks:List Nd}{sl:Sl}{K:Unit→World→Prop}(h:WMr e r w a l)(hsrc:Src e r l sl ks)(hlen:ks.length≤2147483648)
    (c:∀ a' w',WMr e r w' a' l→a'.scs=a.scs→a'.lat=a.lat→a'.er=AD [] ks a.er→K () w'):GN (some ⟨e.bw,0,none⟩) sl K w:=by
  refine Abi _ _ _ _ ?_
  unfold PJ
  refine ArW h fun mb w h => ?_
  have hn:=hsrc.1
  refine YE (fun m (i:Int) w'=>∃ (k:Nat) (a':WA) (es:Array MapEntry) (clock:Nat) (sn:List (ByteArray×Int)) (pre:List ByteArray),i=k∧m+k=ks.length∧WMr e r w' a' (.box mb (.map es clock) :: l)∧FC .string (.int .i64) es clock sn∧(∀ t,(ZJ sn t).isSome=pre.any fun u=>decide (u=t))∧a'.scs=a.scs∧a'.lat=a.lat∧AD pre (ks.drop k) a'.er=AD [] ks a.er) ks.length (0:Int) rfl ⟨0,a,#[],0,[],[],rfl,rfl,h,.nil 0,fun _=>rfl,rfl,rfl,rfl⟩ ?_
  clear h
  rintro m i w1 ⟨k,a1,es,clock,sn,pre,rfl,hm,h,hmp,hseen,hscs,hlat,hfold⟩ again hag
  refine JE (fun hlt => ?_) (fun hge => ?_)
  · have hlt:k<ks.length:=by simp at hlt;omega
    obtain⟨p,x,hp,hcx,hxa,hxt⟩:=hsrc.2 (l':=[.box mb (.map es clock)]) h k ks[k] (List.getElem?_eq_getElem hlt)
    refine JM hp ⟨by omega,by omega,QV (x:=x) (by simpa using hcx) ?_⟩
    refine h.bx fun bn w h => ?_
    have hbn:w.heap[bn]? = some (.cells #[.int .i64 0,.int .i64 0,.string (⟨#[]⟩:ByteArray),.bool false,.slice none 0 0,.slice none 0 0] 27 (0,0)):=h.1.heap (List.mem_append_right _ me0)
    refine XH hbn (Nat.le_of_eq rfl) fun w hset => ?_
    rw[QH (by rfl)] at hset
    replace h:WMr e r w a1 (.box bn (.cells x.cells 27) :: .box mb (.map es clock) :: l):=h.set (k:=0) rfl hset
    have hcn:=h.cells (b:=bn) me0
    refine YS (x:=x.Text) (hcn 2 _ rfl) ?_
    have hmb:w.heap[mb]? = some (.map es clock):=h.1.heap (List.mem_append_right _ me1)
    refine AqD hmb hmp x.Text fun v => ?_
    refine h.dw fun w h => ?_
    refine⟨fun w'=>JD w' ⟨e.bw,0,none⟩ [a1.L.v,UC e.bl,a1.Lt.v]∧JD w' ⟨bn,0,none⟩ x.cells.toList,⟨h.top,h.cells me0⟩,JM rfl ?_⟩
    refine BH (x:=⟨18,#[.pointer (some ⟨e.bl,0,none⟩)]⟩) (fun w' h=>h.1 1 _ rfl) ?_
    refine JV (x:=x.At) (fun w' h=>h.2 1 _ rfl) ?_
    refine Abu h _ _ _ fun a2 w h h1 h2 h3 => ?_
    have hcn:=h.cells (b:=bn) me0
    refine YS (x:=x.Text) (hcn 2 _ rfl) ?_
    have hmb:w.heap[mb]? = some (.map es clock):=h.1.heap (List.mem_append_right _ me1)
    refine Au9 hmb hmp x.Text _ fun es' clock' w hset hmp' => ?_
    replace h:WMr e r w a2 (.box bn (.cells x.cells 27) :: .box mb (.map es' clock') :: l):=h.set (k:=1) rfl hset
    rw[ZS (n:=ks.length) (by omega) (by omega) (by omega)]
    refine hag (m - 1) ((k:Int)+1) w (by omega) ⟨k+1,a2,es',clock',CU sn x.Text k,pre ++ [x.Text],by omega,by omega,h.sub (List.sublist_cons_self _ _),hmp',fun t => ?_,by rw[h1,hscs],by rw[h2,hlat],?_⟩
    · rw[AnF,hseen]
      simp
    · rw[← hfold,h3,List.drop_eq_getElem_cons hlt]
      show _=AD (pre ++ [ks[k].text]) (ks.drop (k+1)) (a1.er.fault 110 ks[k].at_ (pre.any fun t=>decide (t=ks[k].text)))
      rw[hseen,hxa,hxt]
  · have hge:k=ks.length:=by simp at hge;omega
    rw[hge,List.drop_length] at hfold
    exact Rt.mk (h:=QK) () (c a1 w1 (h.sub (List.sublist_cons_self _ _)) hscs hlat hfold)
end
end Go.Proofs.YtjiagmjfnbljjaaGreatDoor
end
section
namespace Go.Proofs.YtjiagmjfnbljjaaGreatDoor
open Go Go.MapKept
set_option maxHeartbeats 4000000
set_option linter.unusedVariables false
set_option linter.unusedSimpArgs false
section
variable{e:We}{r:Fz}{w w':World}{a:WA}{l:List En}
def WA.lat1(a:WA)(la:LaA)(Lt:Sl):WA:={ a with lat:=a.lat ++ [la],Lt:=Lt }
theorem ArQ{la:LaA}{bc r1:Nat}{K:World→Prop}(h:WMr e r w a (.box bc (.cells #[la.v] 1) :: l))(hok:la.Ok e a r)(hr1:(r1,Obj.cells #[.pointer (some ⟨e.bw,0,none⟩)] 53)∈r)(hlen:a.lat.length<2147483648)
    (c:∀ Lt w',WMr e r w' (a.lat1 la Lt) l→K w') :
    rn (Builtin.append_ #[58,58] 58 #[a.Lt.v,.slice (some ⟨bc,0,none⟩) 1 1]) hSl (fun(l53:Sl) w=>
      (JD w ⟨r1,0,none⟩ [.pointer (some ⟨e.bw,0,none⟩)]∧JD w ⟨e.bw,0,none⟩ [a.L.v,UC e.bl,a.Lt.v])∧
      nn (some (⟨e.bw,0,none⟩:Addr)) fun a54=>Ane (a54.add 2) l53 K w) w:=by
  let R:List En:=[.box e.bl (.cells #[.int .i64 a.code,.int .i64 a.at_] 32),.row 65 1 a.L (a.scs.map ScA.ptr)] ++ (a.scs.flatMap ScA.en++l)
  let wb:Sl→En:=fun Lt=>.box e.bw (.cells #[a.L.v,UC e.bl,Lt.v] 60)
  let cb:En:=.box bc (.cells #[la.v] 1)
  have hz:Mz e.w0.heap.size (XW e.w0 r) w (.row 1 1 a.Lt (a.lat.map LaA.v) :: (wb a.Lt :: cb :: R)):=by
    refine h.1.perm ?_
    classical
    refine List.perm_iff_count.2 fun z => ?_
    simp only[WA.en,WA.top,R,wb,cb,List.count_append,List.count_cons,List.count_nil]
    omega
  have hrow:=h.rowLt
  have YV:=h.cells (b:=bc) (cs:=#[la.v]) (t:=1) me0
  refine hz.app Avp (src:=⟨some ⟨bc,0,none⟩,1,1⟩) (news:=[la.v]) ⟨nofun,fun a' ha => ?_⟩ rfl (by simp[MH,LaA.v]) (by simp only;omega) (by decide) fun L' w1 hL' hz1 => ?_
  · simp only[Option.some.injEq] at ha
    subst ha
    exact YV
  have hbw:w1.heap[e.bw]? = some (.cells #[a.L.v,UC e.bl,a.Lt.v] 60 (0,0)):=hz1.heap (List.mem_cons_of_mem _ me0)
  have hfz:w1.heap[r1]? = some (.cells #[.pointer (some ⟨e.bw,0,none⟩)] 53 (0,0)):=by
    obtain⟨I,_,hx⟩:=hz1
    exact(hx.2 _ hr1).2
  refine⟨⟨.all hfz,.all hbw⟩,JM rfl ?_⟩
  show Ane ⟨e.bw,2,none⟩ L' K w1
  refine AqZ hbw (Nat.le_of_ble_eq_true rfl) fun w2 hset=>c L' w2 ⟨?_,h.2.sc,fun q hq => ?_⟩
  · have hz2:=(hz1.perm (.swap _ _ _)).set (k:=0) rfl hset
    refine(hz2.perm (l':=((a.lat1 la L').en e.bw e.bl++l) ++ [cb]) ?_).sub (List.sublist_append_left _ _)
    classical
    refine List.perm_iff_count.2 fun z => ?_
    have hw:(ZI #[a.L.v,UC e.bl,a.Lt.v] 2 [L'.v])=#[a.L.v,UC e.bl,L'.v]:=rfl
    have hp:(a.lat ++ [la]).map LaA.v=a.lat.map LaA.v ++ [la.v]:=by rw[List.map_append];rfl
    simp only[WA.en,WA.top,WA.lat1,hw,hp,List.set_cons_zero,R,wb,List.count_append,List.count_cons,List.count_nil]
    omega
  · have hq:q∈a.lat ++ [la]:=hq
    have hle:a.Le (a.lat1 la L'):=AhO rfl
    rcases List.mem_append.1 hq with hq | hq
    · exact(h.2.la q hq).le hle
    · rw[List.mem_singleton] at hq
      subst hq
      exact hok.le hle
theorem Wp.byOf_at{a:WA}{s:Nat}{c:ScA}{t:ByteArray}{n:NmA}(hs:a.scs[s]? = some c)(hg:ZJ c.names t=some n):a.er.byOf s t=n.n.by_:=by
  unfold Wp.byOf
  rw[WA.er_at hs]
  show(c.er.nm t).by_=_
  unfold Sc.nm
  rw[c.er_get,hg]
  rfl
theorem AoH{n:Nd}{x:JA}{s:Nat}{lp ex:Bool}{K:Unit→World→Prop}(h:WMr e r w a l)(hx:Rep e.w0 e.w0.heap.size n x)(hs:s<a.scs.length)(hb:Bnd a n.kids.length)
    (c:Cn e r a l (fun p=>n.kids.foldl (fun p k=>PK n.kind s k p) p) K):BC (some ⟨e.bw,0,none⟩) x ⟨(s:Int),lp,ex⟩ K w:=by
  refine Aag _ _ _ _ _ ?_
  unfold LC
  obtain⟨s0,hs0⟩:∃ s0,a.scs[s]? = some s0:=⟨_,List.getElem?_eq_getElem hs⟩
  refine h.bx fun r1 w h=>h.bx fun r2 w h=>h.bx fun a3 w h=>h.dw fun w h => ?_
  refine⟨fun w'=>JD w' ⟨r1,0,none⟩ [.pointer (some ⟨e.bw,0,none⟩)]∧JD w' ⟨e.bw,0,none⟩ [a.L.v,UC e.bl,a.Lt.v]∧JD w' ⟨a3,0,none⟩ (JB.cells ⟨(s:Int),lp,ex⟩).toList∧OQ w' a.L (a.scs.map ScA.ptr),⟨h.cells me2,h.top,h.cells me0,h.rowL.1⟩,?_⟩
  refine UD (x:=some ⟨e.bw,0,none⟩) (fun w' h=>by simpa [JP] using h.1 0 _ rfl) (JM rfl ?_)
  refine VA (x:=a.L) (fun w' h=>by simpa [JP] using h.2.1 0 _ rfl) (JV (x:=(s:Int)) (fun w' h=>by simpa [JP] using h.2.2.1 0 _ rfl) ?_)
  obtain⟨pL,hpL,hsn,_⟩:=h.scope hs0
  refine JM hpL ⟨by omega,by omega,?_⟩
  refine VN (x:=some ⟨s0.bs,0,none⟩) (fun w' h=>by
    have:=h.2.2.2.2 pL hpL s s0.ptr (by rw[List.getElem?_map,hs0];rfl)
    simpa [ScA.ptr] using this) ?_
  refine h.bx fun y11 w h=>⟨⟨h.cells (List.mem_cons_of_mem _ me2),h.top,h.cells me1,h.rowL.1⟩,?_⟩
  have hy:w.heap[y11]? = some (.cells #[.pointer none] 65 (0,0)):=h.1.heap (List.mem_append_right _ me0)
  refine Agq hy (Nat.le_of_ble_eq_true rfl) fun w hset => ?_
  have hpc:ZI #[.pointer none] 0 [.pointer (some ⟨s0.bs,0,none⟩)] = #[s0.ptr]:=rfl
  rw[hpc] at hset
  replace h:=h.set (k:=0) rfl hset
  replace h:=h.freeze.freeze.freeze.freeze
  generalize hr4:((r1,Obj.cells #[.pointer (some ⟨e.bw,0,none⟩)] 53) :: (r2,Obj.cells x.cells 27) :: (a3,Obj.cells (JB.cells ⟨(s:Int),lp,ex⟩) 63) :: (y11,Obj.cells #[s0.ptr] 65) :: r:Fz)=r4 at h
  have q1:(r1,Obj.cells #[.pointer (some ⟨e.bw,0,none⟩)] 53)∈r4:=by rw[← hr4];simp
  have q2:(r2,Obj.cells x.cells 27)∈r4:=by rw[← hr4];simp
  have q3:(a3,Obj.cells (JB.cells ⟨(s:Int),lp,ex⟩) 63)∈r4:=by rw[← hr4];simp
  have q4:(y11,Obj.cells #[s0.ptr] 65)∈r4:=by rw[← hr4];simp
  have qr:∀ q∈r,q∈r4:=fun q hq=>by rw[← hr4];simp[hq]
  clear hr4 hset hy hpc
  have hkids:=hx.kids
  have hn:=hkids.1
  have hbs:=hb.lat
  refine UG (x:=x.Kids) (h.fzCells q2 5 _ rfl) ?_
  refine YE (fun m (i:Int) w'=>∃ (k:Nat) (r':Fz) (a':WA),i=k∧m+k=n.kids.length∧WMr e r' w' a' l∧(∀ q∈r4,q∈r')∧a.Le a'∧a'.lat.length=a.lat.length+k∧(n.kids.drop k).foldl (fun p k=>PK n.kind s k p) a'.er=n.kids.foldl (fun p k=>PK n.kind s k p) a.er) n.kids.length (0:Int) rfl ⟨0,r4,a,rfl,rfl,h,fun _ h=>h,.refl a,rfl,rfl⟩ ?_
  clear h
  rintro m i w1 ⟨k,r',a1,rfl,hm,h,hr',hle,hlat,hfold⟩ again hag
  refine JE (fun hlt => ?_) (fun hge => ?_)
  · have hlt:k<n.kids.length:=by simp at hlt;omega
    refine Atg h hkids hlt fun y hy => ?_
    refine h.bx fun a17 w h => ?_
    have hbn:w.heap[a17]? = some (.cells #[.int .i64 0,.int .i64 0,.string (⟨#[]⟩:ByteArray),.bool false,.slice none 0 0,.slice none 0 0] 27 (0,0)):=h.1.heap (List.mem_append_right _ me0)
    refine XH hbn (Nat.le_of_eq rfl) fun w hset => ?_
    rw[QH (by rfl)] at hset
    replace h:WMr e r' w a1 (.box a17 (.cells y.cells 27) :: l):=h.set (k:=0) rfl hset
    replace h:=h.freeze
    have p1:=hr' _ q1
    have p2:=hr' _ q2
    have p3:=hr' _ q3
    have p4:=hr' _ q4
    refine KH (x:=some ⟨s0.bs,0,none⟩) (by simpa [JP,ScA.ptr] using h.fzCells (List.mem_cons_of_mem _ p4) 0 _ rfl) ?_
    refine YS (x:=y.Text) (h.fzCells (List.mem_cons_self) 2 _ rfl) ?_
    obtain⟨s1,hs1,hbs1,_⟩:=hle s s0 hs0
    rw[← hbs1,hy.text]
    refine ApL h hs1 n.kids[k].text fun a2 s2 nm w h hs2 hle2 her2 hg2 hb2 hlat2 => ?_
    refine h.bx fun a21 w h => ?_
    have hb21:w.heap[a21]? = some (.cells #[.pointer none] 104 (0,0)):=h.1.heap (List.mem_append_right _ me0)
    refine Ahl hb21 (Nat.le_of_ble_eq_true rfl) fun w hset => ?_
    have hpc:ZI #[.pointer none] 0 [.pointer (some ⟨nm.bn,0,none⟩)] = #[nm.ptr]:=rfl
    rw[hpc] at hset
    replace h:=h.set (k:=0) rfl hset
    replace h:=h.freeze
    generalize hr6:((a21,Obj.cells #[nm.ptr] 104) :: (a17,Obj.cells y.cells 27) :: r':Fz)=r6 at h
    have t1:(a21,Obj.cells #[nm.ptr] 104)∈r6:=by rw[← hr6];simp
    have t2:(a17,Obj.cells y.cells 27)∈r6:=by rw[← hr6];simp
    have t3:∀ q∈r',q∈r6:=fun q hq=>by rw[← hr6];simp[hq]
    clear hr6 hset hpc hb21
    refine h.dw fun w h => ?_
    obtain⟨j,hj⟩:=BP hg2
    have hnm:=h.nm hs2 hj
    refine⟨fun w'=>JD w' ⟨r1,0,none⟩ [.pointer (some ⟨e.bw,0,none⟩)]∧JD w' ⟨e.bw,0,none⟩ [a2.L.v,UC e.bl,a2.Lt.v]∧JD w' ⟨a17,0,none⟩ y.cells.toList∧JD w' ⟨a21,0,none⟩ [nm.ptr]∧JD w' ⟨nm.bn,0,none⟩ nm.cells.toList∧JD w' ⟨r2,0,none⟩ x.cells.toList,⟨h.fzCells (t3 _ p1),h.top,h.fzCells t2,h.fzCells t1,hnm,h.fzCells (t3 _ p2)⟩,?_⟩
    refine UD (x:=some ⟨e.bw,0,none⟩) (fun w' h=>by simpa [JP] using h.1 0 _ rfl) (JM rfl ?_)
    refine BH (x:=⟨18,#[.pointer (some ⟨e.bl,0,none⟩)]⟩) (fun w' h=>h.2.1 1 _ rfl) ?_
    refine JV (x:=y.At) (fun w' h=>h.2.2.1 1 _ rfl) ?_
    refine KG (x:=some ⟨nm.bn,0,none⟩) (fun w' h=>by simpa [JP,NmA.ptr] using h.2.2.2.1 0 _ rfl) (JM rfl ?_)
    refine JV (x:=nm.n.by_) (fun w' h=>h.2.2.2.2.1 4 _ rfl) ?_
    have hby:=Wp.byOf_at hs2 hg2
    -- behind the fault
    have k0:∀ {a3':WA} {w:World},WMr e r6 w a3' l→a3'.scs=a2.scs→a3'.lat=a2.lat→a3'.er=a2.er.fault 114 y.At (nm.n.by_ != 0 && nm.n.by_ != n.kind)→DP again ⟨r1,0,none⟩ ⟨r2,0,none⟩ ⟨a3,0,none⟩ ⟨y11,0,none⟩ ⟨a17,0,none⟩ ⟨a21,0,none⟩ (k:Int) w:=by
      intro a3' w h hscs hlat3 her3
      unfold DP
      refine Ahb (x:=some ⟨nm.bn,0,none⟩) (by simpa [JP,NmA.ptr] using h.fzCells t1 0 _ rfl) ?_
      refine JO (x:=x.Kind) (by simpa [JP] using h.fzCells (t3 _ p2) 0 _ rfl) (JM rfl ?_)
      show YX ⟨nm.bn,4,none⟩ x.Kind _ w
      have hs3:a3'.scs[s]? = some s2:=by rw[hscs];exact hs2
      have hbn3:w.heap[nm.bn]? = some (.cells nm.cells 107 (0,0)):=by
        refine h.1.heap (List.mem_append_left _ (List.mem_append_right _ (List.mem_flatMap.2 ⟨_,List.mem_of_getElem? hs3,List.mem_append_right _ (List.mem_flatMap.2 ⟨(_,nm),List.mem_of_getElem? hj,?_⟩)⟩)))
        simp[NmA.en]
      refine MB hbn3 (by rw[NmA.size];decide) fun w hset => ?_
      let nm':NmA:={ nm with n:={ nm.n with by_:=n.kind } }
      have YV:ZI nm.cells 4 [.int .i64 x.Kind] = nm'.cells:=by rw[hx.kind];rfl
      rw[YV] at hset
      have hok2:=h.2.sc s2 (List.mem_of_getElem? hs3)
      have hle3:=AeY (n':=nm') h hs3 hj rfl
      have her4:=Akg (a:=a3') (n':=nm') (f:=fun m=>{ m with by_:=n.kind }) hok2 hs3 hj rfl
      replace h:=h.nmSet (n':=nm') hs3 hj rfl rfl rfl rfl rfl hset
      have hs4:=SW hs3 (s2.setN j n.kids[k].text nm')
      have hg4:ZJ (s2.setN j n.kids[k].text nm').names n.kids[k].text=some nm':=CP (h.2.sc _ (List.mem_of_getElem? hs4)).m.nodup (AcD hj nm')
      generalize ha4:a3'.setS s (s2.setN j n.kids[k].text nm')=a4 at h hle3 her4 hs4
      have hlat4:a4.lat=a3'.lat:=by rw[← ha4];rfl
      refine h.dw fun w h => ?_
      refine⟨fun w'=>JD w' ⟨r1,0,none⟩ [.pointer (some ⟨e.bw,0,none⟩)]∧JD w' ⟨e.bw,0,none⟩ [a4.L.v,UC e.bl,a4.Lt.v],⟨h.fzCells (t3 _ p1),h.top⟩,?_⟩
      refine UD (x:=some ⟨e.bw,0,none⟩) (fun w' h=>by simpa [JP] using h.1 0 _ rfl) (UD (x:=some ⟨e.bw,0,none⟩) (fun w' h=>by simpa [JP] using h.1 0 _ rfl) (JM rfl ?_))
      refine AoR (x:=a4.Lt) (fun w' h=>h.2 2 _ rfl) ?_
      let la:LaA:=⟨⟨n.kids[k].at_,n.kids[k].text,n.kind,s⟩,r1,a17,a21,r2,y11,a3⟩
      refine h.bx fun bc w h=>⟨⟨h.fzCells (t3 _ p1),h.top⟩,?_⟩
      have hla:la.Ok e a4 r6:=⟨t3 _ p1,⟨y,t2,hy.at_,hy.text⟩,⟨x,t3 _ p2,hx.kind⟩,⟨⟨(s:Int),lp,ex⟩,t3 _ p3,rfl⟩,s2.setN j n.kids[k].text nm',nm',hs4,hg4,t1,by
        have:(s2.setN j n.kids[k].text nm').ptr=s0.ptr:=by
          unfold ScA.ptr
          show Value.pointer (some ⟨s2.bs,0,none⟩)=_
          rw[hb2,hbs1]
        rw[this];exact t3 _ p4⟩
      refine ArQ (la:=la) (r1:=r1) h hla (t3 _ p1) (by rw[hlat4,hlat3,hlat2];omega) fun Lt w h => ?_
      rw[ZS (n:=n.kids.length) (by omega) (by omega) (by omega)]
      refine hag (m - 1) ((k:Int)+1) w (by omega) ⟨k+1,r6,a4.lat1 la Lt,by omega,by omega,h,fun q hq=>t3 _ (hr' q hq),hle.trans (hle2.trans ((AhO hscs).trans (hle3.trans (AhO rfl)))),?_,?_⟩
      · show(a4.lat ++ [la]).length=_
        rw[List.length_append,hlat4,hlat3,hlat2,hlat]
        simp;omega
      · rw[← hfold,List.drop_eq_getElem_cons hlt]
        show List.foldl _ (a4.lat1 la Lt).er (List.drop (k+1) n.kids)=List.foldl _ (PK n.kind s n.kids[k] a1.er) (List.drop (k+1) n.kids)
        congr 1
        have e1:(a4.lat1 la Lt).er=a4.er.later la.l:=by
          show Wp.mk (a4.scs.map ScA.er) ((a4.lat ++ [la]).map (·.l)) a4.code a4.at_=_
          rw[List.map_append];rfl
        rw[e1,her4,her3]
        unfold PK
        rw[← her2,hby,hy.at_]
    refine JE (fun hb => ?_) (fun hb => ?_)
    · refine KG (x:=some ⟨nm.bn,0,none⟩) (fun w' h=>by simpa [JP,NmA.ptr] using h.2.2.2.1 0 _ rfl) (JM rfl ?_)
      refine JV (x:=nm.n.by_) (fun w' h=>h.2.2.2.2.1 4 _ rfl) (JV (x:=x.Kind) (fun w' h=>by simpa [JP] using h.2.2.2.2.2 0 _ rfl) ?_)
      refine Abu h _ _ _ fun a3' w h h1 h2 h3=>k0 h h1 h2 ?_
      rw[h3,hb,hx.kind,Bool.true_and]
    · refine Abu h _ _ _ fun a3' w h h1 h2 h3=>k0 h h1 h2 ?_
      rw[h3,hb,Bool.false_and]
  · have hge:k=n.kids.length:=by simp at hge;omega
    rw[hge,List.drop_length] at hfold
    exact Rt.mk (h:=QK) () (c r' a1 w1 h (fun q hq=>hr' _ (qr q hq)) hle hfold)
end
end Go.Proofs.YtjiagmjfnbljjaaGreatDoor
end
section
namespace Go.Proofs.YtjiagmjfnbljjaaGreatDoor
open Go Go.MapKept
set_option maxHeartbeats 4000000
set_option linter.unusedVariables false
set_option linter.unusedSimpArgs false
structure Gw(e:We)(r0:Fz)(a0:WA)(L:List En)(k:Nat)(p:Wp)(r:Fz)(a:WA)(w:World):Prop where
  h:WMr e r w a L
  hr:∀ q∈r0,q∈r
  le:a0.Le a
  er:a.er=p
  b:Bnd a k
section
variable{e:We}{r0 r:Fz}{w w':World}{a0 a:WA}{L:List En}{f k:Nat}{p:Wp}
theorem Gw.start(h:WMr e r w a L)(b:Bnd a k):Gw e r a L k a.er r a w:=⟨h,fun _ h=>h,.refl a,rfl,b⟩
theorem Gw.len(g:Gw e r0 a0 L k p r a w):a.scs.length=p.scs.length:=by rw[← g.er,EH]
theorem Gw.mono{k':Nat}(g:Gw e r0 a0 L k p r a w)(h:k'≤k):Gw e r0 a0 L k' p r a w:=⟨g.h,g.hr,g.le,g.er,g.b.mono h⟩
theorem Gw.sub{L':List En}(g:Gw e r0 a0 L k p r a w)(h:L'.Sublist L):Gw e r0 a0 L' k p r a w:=⟨g.h.sub h,g.hr,g.le,g.er,g.b⟩
theorem Gw.ext(g:Gw e r0 a0 L k p r a w)(h:Ext w w'):Gw e r0 a0 L k p r a w':=⟨g.h.ext h,g.hr,g.le,g.er,g.b⟩
theorem Gw.step{r':Fz}{a':WA}{F:Wp→Wp}{d:Nat}(g:Gw e r0 a0 L (k+d) p r a w)(h:WMr e r' w' a' L)(hr:∀ q∈r,q∈r')(le:a.Le a')(er:a'.er=F a.er)(hs:a.er.sub (F a.er) d):Gw e r0 a0 L k (F p) r' a' w':=
  ⟨h,fun q hq=>hr q (g.hr q hq),g.le.trans le,by rw[er,g.er],g.b.sub (by rw[er];exact hs)⟩
theorem Gw.dw{K:World→Prop}(g:Gw e r0 a0 L k p r a w)(c:∀ w',Gw e r0 a0 L k p r a w'→K w'):dw K w:=fun w' d=>c w' (g.ext d.fr)
theorem Gw.bx{o:Obj}{K:Addr→World→Prop}(g:Gw e r0 a0 L k p r a w)(c:∀ b w',Gw e r0 a0 (.box b o :: L) k p r a w'→K ⟨b,0,none⟩ w'):bx o K w:=
  g.h.bx fun b w' h=>c b w' ⟨h,g.hr,g.le,g.er,g.b⟩
theorem Gw.set{i b:Nat}{o o':Obj}(g:Gw e r0 a0 L k p r a w)(hk:L[i]? = some (.box b o))(s:HZ w b o' w'):Gw e r0 a0 (L.set i (.box b o')) k p r a w':=⟨g.h.set hk s,g.hr,g.le,g.er,g.b⟩
theorem Gw.done{l:List En}{F:Wp→Wp}{K:Unit→World→Prop}{r1:Fz}{a1:WA}{w1:World}(c:Cn e r0 a0 l F K)(g:Gw e r0 a0 L k p r1 a1 w1)(hl:l.Sublist L)(hp:p=F a0.er):K () w1:=c r1 a1 w1 (g.h.sub hl) g.hr g.le (by rw[g.er,hp])
theorem Gw.node{n:Nd}{x:JA}{s:Nat}{lp ex:Bool}{K:Unit→World→Prop}(g:Gw e r0 a0 L (k+n.wt) p r a w)(hN:NdW e f)(hw:n.wt<f)(hx:Rep e.w0 e.w0.heap.size n x)(hv:vis n=true)(hs:s<p.scs.length)
    (c:∀ r' a' w',Gw e r0 a0 L k (ndS f false n s lp ex p) r' a' w'→K () w'):ZF (some ⟨e.bw,0,none⟩) x ⟨(s:Int),lp,ex⟩ K w:=
  (hN hw g.h hx hv (by rw[g.len];exact hs) (g.b.mono (by omega))).1 fun r' a' w' h hr le er=>c r' a' w' (g.step h hr le er (MW f false n s lp ex a.er))
theorem Gw.target{n:Nd}{x:JA}{s:Nat}{lp ex:Bool}{K:Unit→World→Prop}(g:Gw e r0 a0 L (k+n.wt) p r a w)(hN:NdW e f)(hw:n.wt<f)(hx:Rep e.w0 e.w0.heap.size n x)(hv:vis n=true)(hs:s<p.scs.length)
    (c:∀ r' a' w',Gw e r0 a0 L k (ndS f true n s lp ex p) r' a' w'→K () w'):XO (some ⟨e.bw,0,none⟩) x ⟨(s:Int),lp,ex⟩ K w:=
  (hN hw g.h hx hv (by rw[g.len];exact hs) (g.b.mono (by omega))).2 fun r' a' w' h hr le er=>c r' a' w' (g.step h hr le er (MW f true n s lp ex a.er))
theorem AeN(tgt:Bool)(s:Nat)(lp ex:Bool)(ks:List Nd)(p:Wp):p.sub (EY f tgt s lp ex ks p) (Nd.wts ks):=by
  unfold EY
  rw[← Aht]
  exact Wp.sub_fold ks p fun k _ p=>MW f tgt k s lp ex p
theorem Gw.all{ks:List Nd}{sl:Sl}{s:Nat}{lp ex:Bool}{K:Unit→World→Prop}(g:Gw e r0 a0 L (k+Nd.wts ks) p r a w)(hN:NdW e f)(hw:∀ k∈ks,k.wt<f)(hx:HS e.w0 e.w0.heap.size ks sl)(hv:∀ k∈ks,vis k=true)(hs:s<p.scs.length)
    (c:∀ r' a' w',Gw e r0 a0 L k (EY f false s lp ex ks p) r' a' w'→K () w'):ZU (some ⟨e.bw,0,none⟩) sl ⟨(s:Int),lp,ex⟩ K w:=
  Aun hN hw g.h hx hv (by rw[g.len];exact hs) (g.b.mono (by omega)) fun r' a' w' h hr le er=>c r' a' w' (g.step h hr le er (AeN false s lp ex ks a.er))
theorem Gw.fault{code at_:Int}{wrong:Bool}{K:Unit→World→Prop}(g:Gw e r0 a0 L k p r a w)(c:∀ a' w',Gw e r0 a0 L k (p.fault code at_ wrong) r a' w'→K () w'):clv (UC e.bl) #[.int .i64 code,.int .i64 at_,.bool wrong] QK K w:=
  Abu g.h code at_ wrong fun a' w' h h1 h2 h3=>c a' w' (g.step (d:=0) (F:=fun p=>p.fault code at_ wrong) h (fun _ h=>h) (AhO h1) h3 (Wp.sub_fault _ _ _ _))
theorem Gw.many{n:Nd}{x:JA}{K:Unit→World→Prop}(g:Gw e r0 a0 L k p r a w)(hx:Rep e.w0 e.w0.heap.size n x)(c:∀ a' w',Gw e r0 a0 L k (p.many n) r a' w'→K () w'):DK (some ⟨e.bw,0,none⟩) x K w:=
  Atl g.h hx.at_ hx.kids.1 fun a' w' h h1 h2 h3=>c a' w' (g.step (d:=0) (F:=fun p=>p.many n) h (fun _ h=>h) (AhO h1) h3 (Wp.sub_many _ _))
theorem Gw.occurs{s:Nat}{sc:ScA}{t:ByteArray}{at_:Int}{bound:Bool}{K:Unit→World→Prop}(g:Gw e r0 a0 L k p r a w)(hs:a.scs[s]? = some sc)(c:∀ a' w',Gw e r0 a0 L k (p.occ s t at_ bound) r a' w'→K () w'):YU (some ⟨sc.bs,0,none⟩) t at_ bound K w:=
  Ami g.h hs t at_ bound fun a' s' w' h h1 h2 h3 h4 h5=>c a' w' (g.step (d:=0) (F:=fun p=>p.occ s t at_ bound) h (fun _ h=>h) h2 h3 (Wp.sub_occ _ _ _ _ _))
theorem Gw.twice{ks:List Nd}{sl:Sl}{K:Unit→World→Prop}(g:Gw e r0 a0 L k p r a w)(hsrc:Src e r L sl ks)(hlen:ks.length≤2147483648)(c:∀ a' w',Gw e r0 a0 L k (AD [] ks p) r a' w'→K () w'):GN (some ⟨e.bw,0,none⟩) sl K w:=
  AsC g.h hsrc hlen fun a' w' h h1 h2 h3=>c a' w' (g.step (d:=0) (F:=fun p=>AD [] ks p) h (fun _ h=>h) (AhO h1) h3 (Wp.sub_twice _ _ _))
theorem Gw.opn{kind around:Int}{x:JA}{K:JB→World→Prop}(g:Gw e r0 a0 L (k+1) p r a w)(c:∀ a' w',Gw e r0 a0 L k (p.open_ kind x.At around) r a' w'→K ⟨(p.scs.length:Int),false,false⟩ w'):US (some ⟨e.bw,0,none⟩) kind x around K w:=
  ApM g.h kind around x (by have:=g.b.scs;omega) fun a' w' h h1 h2 h3 h4=>by
    rw[g.len]
    exact c a' w' (g.step (d:=1) (F:=fun p=>p.open_ kind x.At around) h (fun _ h=>h) h1 h2 (Wp.sub_open _ _ _ _))
def SN(e:We)(b1:Nat)(x:JA)(b2:Nat)(q:JB)(w:World):Prop:=Ext e.w0 w∧JD w ⟨b1,0,none⟩ x.cells.toList∧JD w ⟨b2,0,none⟩ q.cells.toList
theorem Gw.sn{b1 b2:Nat}{x:JA}{q:JB}(g:Gw e r0 a0 L k p r a w)(m1 : .box b1 (.cells x.cells 27)∈L)(m2 : .box b2 (.cells q.cells 63)∈L):SN e b1 x b2 q w:=⟨g.h.base,g.h.cells m1,g.h.cells m2⟩
section
variable{b1 b2:Nat}{x:JA}{q:JB}{ks:List Nd}{C:JA→JB→World→Prop}
  (g:Gw e r0 a0 L k p r a w) (m1 : .box b1 (.cells x.cells 27)∈L) (m2 : .box b2 (.cells q.cells 63)∈L) (hk:HS e.w0 e.w0.heap.size ks x.Kids)
include g m1 m2 hk
theorem Aqy(hi:0<ks.length)(c:∀ w y,Gw e r0 a0 L k p r a w→Rep e.w0 e.w0.heap.size ks[0] y→C y q w):dw (fun w=>∃ S:World→Prop,S w∧QM S ((⟨b1,0,none⟩:Addr).add 5) fun(l:Sl)=>nn l.a fun a=>0≤(0:Int)∧(0:Int)<((l.n:Nat):Int)∧QB S a fun(y:JA)=>ZD S ⟨b2,0,none⟩ fun(z:JB)=>C y z w) w:=by
  refine g.dw fun w g=>⟨SN e b1 x b2 q,g.sn m1 m2,ZY (x:=x.Kids) (fun w' h=>h.2.1 5 _ rfl) ?_⟩
  have:=ArL (S:=SN e b1 x b2 q) (fun w' h=>h.1) hk hi (K:=fun y=>ZD (SN e b1 x b2 q) ⟨b2,0,none⟩ fun z=>C y z w) fun y hy=>EK (x:=q) (fun w' h=>h.2.2) (c w y g hy)
  simpa [JP] using this
theorem ArO(hi:1<ks.length)(c:∀ w y,Gw e r0 a0 L k p r a w→Rep e.w0 e.w0.heap.size ks[1] y→C y q w):dw (fun w=>∃ S:World→Prop,S w∧QM S ((⟨b1,0,none⟩:Addr).add 5) fun(l:Sl)=>nn l.a fun a=>0≤(1:Int)∧(1:Int)<((l.n:Nat):Int)∧QB S (a.add 6) fun(y:JA)=>ZD S ⟨b2,0,none⟩ fun(z:JB)=>C y z w) w:=by
  refine g.dw fun w g=>⟨SN e b1 x b2 q,g.sn m1 m2,ZY (x:=x.Kids) (fun w' h=>h.2.1 5 _ rfl) ?_⟩
  exact ArL (S:=SN e b1 x b2 q) (fun w' h=>h.1) hk hi (K:=fun y=>ZD (SN e b1 x b2 q) ⟨b2,0,none⟩ fun z=>C y z w) fun y hy=>EK (x:=q) (fun w' h=>h.2.2) (c w y g hy)
theorem AvE(hi:2<ks.length)(c:∀ w y,Gw e r0 a0 L k p r a w→Rep e.w0 e.w0.heap.size ks[2] y→C y q w):dw (fun w=>∃ S:World→Prop,S w∧QM S ((⟨b1,0,none⟩:Addr).add 5) fun(l:Sl)=>nn l.a fun a=>0≤(2:Int)∧(2:Int)<((l.n:Nat):Int)∧QB S (a.add 12) fun(y:JA)=>ZD S ⟨b2,0,none⟩ fun(z:JB)=>C y z w) w:=by
  refine g.dw fun w g=>⟨SN e b1 x b2 q,g.sn m1 m2,ZY (x:=x.Kids) (fun w' h=>h.2.1 5 _ rfl) ?_⟩
  exact ArL (S:=SN e b1 x b2 q) (fun w' h=>h.1) hk hi (K:=fun y=>ZD (SN e b1 x b2 q) ⟨b2,0,none⟩ fun z=>C y z w) fun y hy=>EK (x:=q) (fun w' h=>h.2.2) (c w y g hy)
end
end
end Go.Proofs.YtjiagmjfnbljjaaGreatDoor
end
