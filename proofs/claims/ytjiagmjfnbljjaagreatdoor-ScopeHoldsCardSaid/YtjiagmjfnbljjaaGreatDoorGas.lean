/- Lemmas for the statement proved in the last of these texts: part 19 of 25. Conditions: none. -/
import Derived.Test.YtjiagmjfnbljjaaGreatDoorGaj
import Derived.Test.YtjiagmjfnbljjaaGreatDoorGan
import Derived.Test.YtjiagmjfnbljjaaGreatDoorGar
import Derived.Test.YtjiagmjfnbljjaaGreatDoorGag
import Derived.WideShapes
import Derived.Lib.MapLaws
import Derived.Lib.ValidLaws
set_option linter.unusedSectionVars false
section
namespace Go.Proofs.YtjiagmjfnbljjaaGreatDoor
open Go Go.MapKept Go.RowKit Go.Maps Go.Sort Go.Shelf
set_option maxHeartbeats 4000000
set_option linter.unusedVariables false
set_option linter.unusedSimpArgs false
section
variable{α:Type}{ev:α→Value}{es:Array MapEntry}{clock:Nat}
def rd1:Value→Option (DataW Unit×List MemPlace):=fun _=>some (.lit (.bool true),[])
def AhX(P:Program)(k:TypeId)(es:Array MapEntry):DataW Unit:=.map ((es.toList.map (Go.WideElems.rg P k rd1)).foldr DataW.insert [])
theorem ApN{P:Program}{k:TypeId}{w:World}{b:Nat}(hb:w.heap[b]? = some (.map es clock))(hs:Stamped es clock)(hn:es.size≤2147483648)(hk:∀ x∈es.toList,∃ kl,keyOf P k x.key=some kl) :
    w.ownsMap P k rd1 b es.size (AhX P k es):=by
  refine⟨es,clock,hb,⟨?_,hs,fun x hx => ?_⟩,Nat.le_refl _,rfl⟩
  · unfold maxLen;omega
  · obtain⟨kl,hk⟩:=hk x hx
    exact⟨_,Go.WideElems.rd_mk (yv:=(.lit (.bool true),[])) hk rfl⟩
theorem AlW(P:Program)(k:TypeId)(es:Array MapEntry):Maps.size (AhX P k es)=es.size:=by
  unfold AhX
  rw[Maps.size_eq,(Go.WideShapes.sorted_perm _).length_eq]
  simp
theorem Asi{P:Program}{k:TypeId}{x:MapEntry}{kl:Lit}(h:keyOf P k x.key=some kl):(Go.WideElems.rg P k rd1 x).1=kl:=by
  rw[Go.WideElems.rg_of (Go.WideElems.rd_mk (yv:=(.lit (.bool true),[])) h rfl)]
def AgY:Value→List UInt8
  | .string s=>s.data.toList
  | _=>[]
def Akt:Value→Int
  | .int _ a=>a
  | _=>0
theorem Below.ext{w w':World}(h:Below w.heap.size w w'):Ext w w':=⟨h.os,h.tape,h.output,h.size,fun b o _ hb=>by rw[h.block b (ZC hb)];exact hb⟩
theorem Ar3{w:World}{B e sz:Nat}{v:Value}{n:Nat}{xs:List Value}(h:w.ownsRow B e sz v n xs):∃ s:Sl,v=s.v∧s.n=n∧Own w B e sz s xs:=by
  obtain⟨h1,h2⟩:=h
  rcases h2 with⟨rfl,hn⟩ | ⟨g,cap,cur,rfl,r⟩
  · exact⟨⟨none,0,0⟩,rfl,hn.symm,by subst hn;exact h1,.inl ⟨rfl,rfl⟩⟩
  · exact⟨⟨some ⟨g,0,none⟩,n,cap⟩,rfl,rfl,h1,.inr ⟨g,cap,cur,rfl,r⟩⟩
theorem FC.keyList{κ:Type}{ek:κ→Value}{l:List (κ×α)}(h:FC ek ev es clock l):es.toList.map (·.key)=l.map fun p=>ek p.1:=by
  have:es.toList.map (·.key)=(es.toList.map fun e=>(e.key,e.val)).map (·.1):=by simp
  rw[this,h.eq,List.map_map];rfl
theorem Aof{w:World}{b:Nat}{l:List (ByteArray×α)}(hb:w.heap[b]? = some (.map es clock))(hm:FC .string ev es clock l)(hT:∀ q∈l,q.1.size≤2147483648)(hlen:l.length≤2147483648){K:Sl→World→Prop}
    (c:∀ (sl:Sl) (w':World),sl.n=l.length→Own w' w.heap.size 9 1 sl ((Ae9 (l.map (·.1))).map .string)→Ext w w'→K sl w') :
    QX (some b) (fun x w=>GW x K w) w:=by
  refine MY _ _ _ ?_
  unfold VX
  intro m1 w1 n1
  have hkey:∀ x∈es.toList,keyOf PP 9 x.key=some (.string (AgY x.key)):=by
    intro x hx
    have:x.key∈es.toList.map (·.key):=List.mem_map.2 ⟨x,hx,rfl⟩
    rw[hm.keyList] at this
    obtain⟨q,hq,he⟩:=List.mem_map.1 this
    have hq:=hT q hq
    have hsz:q.1.size≤maxLen:=by unfold maxLen;omega
    rw[← he]
    simp[keyOf,mapKey,Apa,hsz,AgY]
  have hes:=hm.len
  have hown:=ApN (P:=PP) (k:=9) hb hm.st (by omega) fun x hx=>⟨_,hkey x hx⟩
  have hperm:(strKeys (AhX PP 9 es)).Perm ((l.map (·.1)).map fun t=>t.data.toList):=by
    unfold AhX strKeys
    refine((Go.WideShapes.sorted_perm _).map _).trans (.of_eq ?_)
    rw[List.map_map]
    have h1:es.toList.map ((fun p=>strOf p.1)∘Go.WideElems.rg PP 9 rd1)=es.toList.map fun x=>AgY x.key:=by
      refine List.map_congr_left fun x hx => ?_
      simp only[Function.comp,Asi (hkey x hx)]
      rfl
    rw[h1]
    have h2:es.toList.map (fun x=>AgY x.key)=(es.toList.map (·.key)).map AgY:=by simp
    rw[h2,hm.keyList,List.map_map,List.map_map]
    rfl
  obtain⟨rfl,rfl⟩:=n1
  refine Rt.mk (h:=hFn) ⟨91,#[.pointer (some ⟨w.heap.size,0,none⟩)]⟩ ?_
  have hbl:=hown.lt
  have hsz:Maps.size (AhX PP 9 es)=l.length:=by rw[AlW,hes]
  have hseq:SeqGives Fence.wide 2 PP 91 #[.pointer (some ⟨w.heap.size,0,none⟩)] encStr (fun ss=>ss.Perm (strKeys (AhX PP 9 es))) (Maps.size (AhX PP 9 es)) (w.alloc (.cells #[.map (some b)] 93)):=
    AnyZ.keys_gives (ρ:=Ly.keysS_ren) { Ly.keysS with } Fence.wide _ trivial rfl (by omega) w.heap.size b es.size _ _ (by simp) (by simp) (by
      obtain⟨es,clock,hb,Ft,hs,hD⟩:=hown
      exact⟨es,clock,(Below.heap_alloc _ _ b hbl).trans hb,Ft,hs,hD⟩)
  have hsorts:AnyZ.SortsIn PP Ly.sortedS_ren Fence.wide 4:=
    ⟨fun blk off cap ss W hH hblk hsz=>callsIn_wide.2 (AnyM.slices_Sort_string Ly.sortS blk off cap ss W hH hblk hsz),
     fun p cap W=>callsIn_wide.2 (AnyM.slices_Sort_string_none Ly.sortS p cap W)⟩
  have hS:=AnyZ.sorted_in Ly.sortedS Fence.wide 5 trivial trivial trivial trivial rfl (by omega) hsorts (enters_of Tryz.func90 (by kernel_rfl) rfl) 91 #[.pointer (some ⟨w.heap.size,0,none⟩)] trivial (enters_of Tryz.func91 (by kernel_rfl) rfl) _ _ (by rw[hsz];unfold maxLen;omega) (by rw[hsz];omega) _ hseq
  refine(callsIn_wide.1 hS).mono fun e w' hx => ?_
  obtain⟨v,ss,rfl,hp,hrow,hnil,hbw⟩:=hx
  obtain⟨sl,rfl,hn,ho⟩:=Ar3 hrow
  have hss:ss.length=l.length:=by rw[(hp.trans hperm).length_eq];simp
  have he:Ext w w':=by
    have h1:Ext w (w.alloc (.cells #[.map (some b)] 93)):=LG.fr (a:=⟨w.heap.size,0,none⟩) ⟨rfl,rfl⟩
    exact h1.trans (Below.ext hbw)
  refine⟨sl,rfl,c sl w' (by omega) ?_ he⟩
  rw[Ao8 (hp.trans hperm)] at ho
  have h1:((Ae9 (l.map (·.1))).map fun t=>t.data.toList).map encStr=(Ae9 (l.map (·.1))).map .string:=by
    rw[List.map_map]
    refine List.map_congr_left fun t _ => ?_
    simp[encStr]
  rw[h1] at ho
  obtain⟨o1,o2⟩:=ho
  refine⟨o1,?_⟩
  rcases o2 with o2 | ⟨g,cap,cur,hv,hbg,r⟩
  · exact .inl o2
  · exact .inr ⟨g,cap,cur,hv,by simp at hbg;omega,r⟩
theorem Aoe{w:World}{b:Nat}{l:List (Int×α)}(hb:w.heap[b]? = some (.map es clock))(hm:FC (.int .i64) ev es clock l)(hT:∀ q∈l,0≤q.1∧q.1≤2147483648)(hlen:l.length≤2147483648){K:Sl→World→Prop}
    (c:∀ (sl:Sl) (w':World),sl.n=l.length→Own w' w.heap.size 3 1 sl ((AlE (l.map (·.1))).map (.int .i64))→Ext w w'→K sl w') :
    DM (some b) (fun x w=>RC x K w) w:=by
  refine FZ _ _ _ ?_
  unfold HX
  intro m1 w1 n1
  have hkey:∀ x∈es.toList,keyOf PP 3 x.key=some (.int .i64 (Akt x.key)):=by
    intro x hx
    have:x.key∈es.toList.map (·.key):=List.mem_map.2 ⟨x,hx,rfl⟩
    rw[hm.keyList] at this
    obtain⟨q,hq,he⟩:=List.mem_map.1 this
    have hq:=hT q hq
    have hwf:(Lit.int .i64 q.1).wf=true:=by
      simp only[Lit.wf,Bool.and_eq_true,decide_eq_true_eq]
      have h1:IntKind.i64.min = -9223372036854775808:=by decide
      have h2:IntKind.i64.max=9223372036854775807:=by decide
      rw[h1,h2];omega
    rw[← he]
    simp[keyOf,mapKey,Tryz.underlying3,hwf,Akt]
  have hes:=hm.len
  have hown:=ApN (P:=PP) (k:=3) hb hm.st (by omega) fun x hx=>⟨_,hkey x hx⟩
  have hperm:(intKeys (AhX PP 3 es)).Perm (l.map (·.1)):=by
    unfold AhX intKeys
    refine((Go.WideShapes.sorted_perm _).map _).trans (.of_eq ?_)
    rw[List.map_map]
    have h1:es.toList.map ((fun p=>Go.intOf p.1)∘Go.WideElems.rg PP 3 rd1)=es.toList.map fun x=>Akt x.key:=by
      refine List.map_congr_left fun x hx => ?_
      simp only[Function.comp,Asi (hkey x hx)]
      rfl
    rw[h1]
    have h2:es.toList.map (fun x=>Akt x.key)=(es.toList.map (·.key)).map Akt:=by simp
    rw[h2,hm.keyList,List.map_map]
    rfl
  obtain⟨rfl,rfl⟩:=n1
  refine Rt.mk (h:=hFn) ⟨94,#[.pointer (some ⟨w.heap.size,0,none⟩)]⟩ ?_
  have hbl:=hown.lt
  have hsz:Maps.size (AhX PP 3 es)=l.length:=by rw[AlW,hes]
  have hseq:SeqGives Fence.wide 2 PP 94 #[.pointer (some ⟨w.heap.size,0,none⟩)] encZ (fun ss=>ss.Perm (intKeys (AhX PP 3 es))) (Maps.size (AhX PP 3 es)) (w.alloc (.cells #[.map (some b)] 105)):=
    AnyZI.keys_gives (ρ:=Ly.keysI_ren) { Ly.keysI with } Fence.wide _ trivial rfl (by omega) w.heap.size b es.size _ _ (by simp) (by simp) (by
      obtain⟨es,clock,hb,Ft,hs,hD⟩:=hown
      exact⟨es,clock,(Below.heap_alloc _ _ b hbl).trans hb,Ft,hs,hD⟩)
  have hsorts:AnyZI.SortsIn PP Ly.sortedI_ren Fence.wide 4:=
    ⟨fun blk off cap ss W hH hblk hsz=>callsIn_wide.2 (AnyM.slices_Sort_int Ly.sortI blk off cap ss W hH hblk hsz),
     fun p cap W=>callsIn_wide.2 (AnyM.slices_Sort_int_none Ly.sortI p cap W)⟩
  have hS:=AnyZI.sorted_in Ly.sortedI Fence.wide 5 trivial trivial trivial trivial rfl (by omega) hsorts (enters_of Tryz.func93 (by kernel_rfl) rfl) 94 #[.pointer (some ⟨w.heap.size,0,none⟩)] trivial (enters_of Tryz.func94 (by kernel_rfl) rfl) _ _ (by rw[hsz];unfold maxLen;omega) (by rw[hsz];omega) _ hseq
  refine(callsIn_wide.1 hS).mono fun e w' hx => ?_
  obtain⟨v,ss,rfl,hp,hrow,hnil,hbw⟩:=hx
  obtain⟨sl,rfl,hn,ho⟩:=Ar3 hrow
  have hss:ss.length=l.length:=by rw[(hp.trans hperm).length_eq];simp
  have he:Ext w w':=by
    have h1:Ext w (w.alloc (.cells #[.map (some b)] 105)):=LG.fr (a:=⟨w.heap.size,0,none⟩) ⟨rfl,rfl⟩
    exact h1.trans (Below.ext hbw)
  refine⟨sl,rfl,c sl w' (by omega) ?_ he⟩
  rw[Ao9 (hp.trans hperm)] at ho
  obtain⟨o1,o2⟩:=ho
  refine⟨o1,?_⟩
  rcases o2 with o2 | ⟨g,cap,cur,hv,hbg,r⟩
  · exact .inl o2
  · exact .inr ⟨g,cap,cur,hv,by simp at hbg;omega,r⟩
end
end Go.Proofs.YtjiagmjfnbljjaaGreatDoor
end
section
namespace Go.Proofs.YtjiagmjfnbljjaaGreatDoor
open Go Go.MapKept
set_option maxHeartbeats 4000000
set_option linter.unusedVariables false
set_option linter.unusedSimpArgs false
section
variable{e:We}{r:Fz}{w w':World}{a:WA}{l:List En}
theorem WMr.ldL(h:WMr e r w a l){K:Sl→World→Prop}(k:K a.L w):QN ⟨e.bw,0,none⟩ K w:=FF (x:=a.L) (by simpa [JP] using h.top 0 _ rfl) k
theorem WMr.ldP(h:WMr e r w a l){i:Nat}{sc:ScA}(hi:a.scs[i]? = some sc){K:Option Addr→World→Prop}(k:K (some ⟨sc.bs,0,none⟩) w):nn a.L.a fun a3=>0≤(i:Int)∧(i:Int)<((a.L.n:Nat):Int)∧ZA (a3.add ((i:Int).toNat * 1)) K w:=by
  obtain⟨p,hp,hn,hc⟩:=h.scope hi
  refine JM hp ⟨by omega,by omega,KH (x:=some ⟨sc.bs,0,none⟩) ?_ k⟩
  simpa [ScA.ptr] using hc
theorem WMr.ldM(h:WMr e r w a l){i:Nat}{sc:ScA}(hi:a.scs[i]? = some sc){K:Option Nat→World→Prop}(k:K (some sc.mp) w):ZL ((⟨sc.bs,0,none⟩:Addr).add 3) K w:=DQ (x:=some sc.mp) (h.sc hi 3 _ rfl) k
theorem WMr.nmAt(h:WMr e r w a l){i:Nat}{sc:ScA}(hi:a.scs[i]? = some sc){t:ByteArray}{n:NmA}(hg:ZJ sc.names t=some n):JD w ⟨n.bn,0,none⟩ n.cells.toList:=by
  obtain⟨j,hj⟩:=BP hg
  exact h.nm hi hj
theorem WMr.usAt(h:WMr e r w a l){i:Nat}{sc:ScA}(hi:a.scs[i]? = some sc){t:ByteArray}{n:NmA}(hg:ZJ sc.names t=some n):w.heap[n.un]? = some (.map n.ue n.uc)∧n.Ok:=by
  obtain⟨j,hj⟩:=BP hg
  refine⟨h.1.heap (List.mem_append_left _ (List.mem_append_right _ (List.mem_flatMap.2 ⟨sc,List.mem_of_getElem? hi,List.mem_append_right _ (List.mem_flatMap.2 ⟨(t,n),List.mem_of_getElem? hj,by simp[NmA.en]⟩)⟩))),?_⟩
  exact(h.2.sc sc (List.mem_of_getElem? hi)).nm _ (List.mem_of_getElem? hj)
theorem WMr.lkN(h:WMr e r w a l){i:Nat}{sc:ScA}(hi:a.scs[i]? = some sc){t:ByteArray}{n:NmA}(hg:ZJ sc.names t=some n){K:Option Addr→World→Prop}(k:K (some ⟨n.bn,0,none⟩) w):YT (some sc.mp) t K w:=by
  refine ApE (h.map hi) (h.2.sc sc (List.mem_of_getElem? hi)).m t ?_
  rw[hg];exact k
theorem ArU{S:World→Prop}{b:Nat}{es:Array MapEntry}{clock:Nat}{names:List (ByteArray×NmA)}(hb:∀ w,S w→w.heap[b]? = some (.map es clock))(hm:FC .string NmA.ptr es clock names)(t:ByteArray){K:Option Addr→Prop}(c:K ((ZJ names t).map fun n=>⟨n.bn,0,none⟩)):IM S (some b) t K:=by
  refine VQ (h:=SO) _ (fun w hw => ?_) c
  have:=Aex (P:=PP) (w:=w) (ek:=Value.string) Ajs Apa (Anm w) (fun _=>trivial) AeS (hb w hw) hm t false
  rw[this]
  cases ZJ names t with
  | none=>rfl
  | some n=>rfl
theorem At8(h:WMr e r w a l)(ha:CX a.er){i:Nat}{sc:ScA}(hi:a.scs[i]? = some sc){t:ByteArray}{n:NmA}(hg:ZJ sc.names t=some n){K:Int→World→Prop}(c:K (AbN a.er i t) w):IC (some ⟨e.bw,0,none⟩) (i:Int) t K w:=by
  refine Acf _ _ _ _ _ ?_
  unfold RV
  have hnm:=AmX hi hg
  have hkind:a.er.kindOf i=sc.kind:=by unfold Wp.kindOf;rw[WA.er_at hi];rfl
  have hlt:=(List.getElem?_eq_some_iff.1 hi).1
  unfold AbN at c
  rw[hnm,hkind] at c
  refine JM rfl (h.ldL (h.ldP hi (JM rfl (h.ldM hi (h.lkN hi hg (JM rfl (JO (x:=sc.kind) (by simpa [JP] using h.sc hi 0 _ rfl) ?_)))))))
  have hc:=h.nmAt hi hg
  refine JE (fun hb => ?_) (fun hb => ?_)
  · rw[hb,Bool.true_or,if_pos rfl] at c
    exact Rt.mk (h:=QC .i64) (4:Int) c
  rw[hb,Bool.false_or] at c
  refine JM rfl (JO (x:=n.n.by_) (hc 4 _ rfl) (JE (fun hb2 => ?_) (fun hb2 => ?_)))
  · rw[if_pos hb2] at c
    exact Rt.mk (h:=QC .i64) (4:Int) c
  rw[if_neg (ne_true_of_eq_false hb2)] at c
  unfold LD
  refine JM rfl (JO (x:=n.n.by_) (hc 4 _ rfl) (JE (fun hb3 => ?_) (fun hb3 => ?_)))
  · rw[if_pos hb3] at c
    exact Rt.mk (h:=QC .i64) (3:Int) c
  rw[if_neg (ne_true_of_eq_false hb3)] at c
  have b1:(n.n.bound && sc.kind==3)=false→AS (Rt (QC .i64) K) (some ⟨e.bw,0,none⟩) (i:Int) t (some ⟨n.bn,0,none⟩) w:=by
    intro hf
    rw[if_neg (ne_true_of_eq_false hf)] at c
    unfold AS
    refine JM rfl (HT (x:=n.n.bound) (hc 2 _ rfl) (JE (fun hb4 => ?_) (fun hb4 => ?_)))
    · rw[if_pos hb4] at c
      exact Rt.mk (h:=QC .i64) (1:Int) c
    rw[if_neg (ne_true_of_eq_false hb4)] at c
    refine AmQ h ha hlt t (JE (fun hb5 => ?_) (fun hb5 => ?_))
    · rw[if_pos hb5] at c
      exact Rt.mk (h:=QC .i64) (3:Int) c
    · rw[if_neg (ne_true_of_eq_false hb5)] at c
      exact Rt.mk (h:=QC .i64) (4:Int) c
  refine JM rfl (HT (x:=n.n.bound) (hc 2 _ rfl) (JE (fun hb4 => ?_) (fun hb4=>b1 (by rw[hb4];rfl))))
  refine JM rfl (JO (x:=sc.kind) (by simpa [JP] using h.sc hi 0 _ rfl) (JE (fun hb5 => ?_) (fun hb5=>b1 (by rw[hb5,Bool.and_false]))))
  rw[hb4,hb5,Bool.true_and,if_pos rfl] at c
  exact Rt.mk (h:=QC .i64) (5:Int) c
theorem WMr.usSet(h:WMr e r w a l){i j:Nat}{s:ScA}{t:ByteArray}{n n':NmA}(hs:a.scs[i]? = some s)(hj:s.names[j]? = some (t,n))(hb:n'.bn=n.bn)(hu:n'.un=n.un)(YV:n'.cells=n.cells)(hok:n'.Ok)
    (hset:HZ w n.un (.map n'.ue n'.uc) w'):WMr e r w' (a.setS i (s.setN j t n')) l:=by
  have hsok:=h.2.sc s (List.mem_of_getElem? hs)
  have hle:a.Le (a.setS i (s.setN j t n')):=AeY h hs hj hb
  have hok':(s.setN j t n').Ok:=by
    refine⟨⟨hsok.m.st,?_⟩,fun p hp => ?_⟩
    · show s.me.toList.map _=(s.names.set j (t,n')).map _
      rw[hsok.m.eq,List.map_set]
      refine(PT _ _ _ ?_).symm
      rw[List.getElem?_map,hj]
      show some _=some _
      unfold NmA.ptr
      rw[hb]
    · have hp:p∈s.names.set j (t,n'):=hp
      rcases List.mem_or_eq_of_mem_set hp with hp | rfl
      · exact hsok.nm p hp
      · exact hok
  have q:∀ (n:NmA) (R:List En),(n.en++R).Perm (.box n.un (.map n.ue n.uc) :: (.box n.bn (.cells n.cells 107) :: R)):=fun n R=>.swap _ _ _
  have q':(n'.en++s.rest j (a.rest i e.bw e.bl l)).Perm (.box n.un (.map n'.ue n'.uc) :: (.box n.bn (.cells n.cells 107) :: s.rest j (a.rest i e.bw e.bl l))):=by
    have:=q n' (s.rest j (a.rest i e.bw e.bl l))
    rwa [hb,hu,YV] at this
  exact h.put (b:=n.un) (o:=.map n.ue n.uc) (o':=.map n'.ue n'.uc) (((WA.en_at hs e.bw e.bl l).trans (ScA.en_at hj _)).trans (q n _)) hset (((WA.en_set (s':=s.setN j t n') hs rfl e.bw e.bl l).trans (ScA.en_set hj _)).trans q') (h.2.set hs hok' hle)
theorem AmW:PP.underlying 105=some (.map 3 3):=by kernel_rfl
theorem ArI:PP.underlying 3=some (.int .i64):=by kernel_rfl
theorem AmS(a b:Int)(h:Value.int .i64 a = .int .i64 b):a=b:=by cases h;rfl
structure Ux(a a':WA)(i:Nat)(t:ByteArray)(f:Nm→Nm):Prop where
  le:a.Le a'
  er:a'.er=a.er.mod i (·.upd t f)
  L:a'.L=a.L
theorem Anj(h:WMr e r w a l){i:Nat}{s:ScA}{t:ByteArray}{n:NmA}(hs:a.scs[i]? = some s)(hg:ZJ s.names t=some n)(k:Int){K:World→Prop}
    (c:∀ a' s' n' w',WMr e r w' a' l→Ux a a' i t (Nm.put k)→a'.scs[i]? = some s'→s'.bs=s.bs→ZJ s'.names t=some n'→n'.bn=n.bn→n'.un=n.un→K w'):IW (some n.un) k 0 K w:=by
  obtain⟨hb,hok⟩:=h.usAt hs hg
  have hsok:=h.2.sc s (List.mem_of_getElem? hs)
  obtain⟨es',clock',h1,h2⟩:=Am7 (P:=PP) (w:=w) (ek:=Value.int .i64) (ev:=Value.int .i64) AmW ArI (fun _=>rfl) AmS hb hok.m k 0
  obtain⟨j,hj⟩:=BP hg
  let n':NmA:={ n with n:=n.n.put k,ue:=es',uc:=clock' }
  have h3:=h.usSet (n':=n') hs hj rfl rfl rfl ⟨h2⟩ (w':={ w with heap:=w.heap.setIfInBounds n.un (.map es' clock') }) rfl
  refine CW h1 (c _ (s.setN j t n') n' _ h3 ⟨AeY h hs hj rfl,Akg hsok hs hj rfl,rfl⟩ (SW hs _) rfl ?_ rfl rfl)
  have hok3:=h3.2.sc (s.setN j t n') (List.mem_of_getElem? (SW hs _))
  exact CP hok3.m.nodup (AcD hj n')
theorem At5(h:WMr e r w a l){i:Nat}{s:ScA}{t:ByteArray}{n:NmA}(hs:a.scs[i]? = some s)(hg:ZJ s.names t=some n)(k:Int){K:Unit→World→Prop}
    (c:∀ a' s' n' w',WMr e r w' a' l→Ux a a' i t (Nm.del k)→a'.scs[i]? = some s'→s'.bs=s.bs→ZJ s'.names t=some n'→n'.bn=n.bn→n'.un=n.un→K () w'):rn (Builtin.delete_ #[105,3] 0 #[.map (some n.un),.int .i64 k]) QK K w:=by
  obtain⟨hb,hok⟩:=h.usAt hs hg
  have hsok:=h.2.sc s (List.mem_of_getElem? hs)
  obtain⟨es',h1,h2⟩:=AtS (P:=PP) (w:=w) (ty:=0) (ek:=Value.int .i64) (ev:=Value.int .i64) AmW ArI (fun _=>rfl) AmS hb hok.m k
  obtain⟨j,hj⟩:=BP hg
  let n':NmA:={ n with n:=n.n.del k,ue:=es',uc:=n.uc }
  have h3:=h.usSet (n':=n') hs hj rfl rfl rfl ⟨h2⟩ (w':={ w with heap:=w.heap.setIfInBounds n.un (.map es' n.uc) }) rfl
  refine YZ (h:=QK) () h1 (c _ (s.setN j t n') n' _ h3 ⟨AeY h hs hj rfl,Akg hsok hs hj rfl,rfl⟩ (SW hs _) rfl ?_ rfl rfl)
  have hok3:=h3.2.sc (s.setN j t n') (List.mem_of_getElem? (SW hs _))
  exact CP hok3.m.nodup (AcD hj n')
theorem WMr.rowAt{t:TypeId}{s:Sl}{cs:List Value}(h:WMr e r w a l)(hx : .row t 1 s cs∈l):OQ w s cs∧s.n=cs.length:=by
  have ho:Own w e.w0.heap.size t 1 s cs:=h.1.ok (e:=.row t 1 s cs) (List.mem_append_right _ hx)
  have:=ho.len
  exact⟨ho.cells,by omega⟩
theorem WMr.row_new{t:TypeId}{sz:Nat}{s:Sl}{cs:List Value}(h:WMr e r w a l)(he:Ext w w')(ho:Own w' w.heap.size t sz s cs):WMr e r w' a (.row t sz s cs :: l):=by
  obtain⟨⟨I,hm,hx⟩,hok⟩:=h
  have h2:=(hm.ext he)
  refine⟨Mz.perm (l:=.row t sz s cs :: (a.en e.bw e.bl++l)) ⟨I,hm.cons_new (Ext.fr he) h2.ok ?_ fun i hi=>(Own.old ho hi).1,?_⟩ (FK _ _ _),hok⟩
  · obtain⟨o1,o2⟩:=ho
    refine⟨o1,?_⟩
    rcases o2 with o2 | ⟨g,cap,cur,hv,hbg,hr⟩
    · exact .inl o2
    · exact .inr ⟨g,cap,cur,hv,Nat.le_trans hm.le hbg,hr⟩
  · exact(XW e.w0 r).keep hx (Ext.fr he)
end
end Go.Proofs.YtjiagmjfnbljjaaGreatDoor
end
section
namespace Go.Proofs.YtjiagmjfnbljjaaGreatDoor
open Go Go.MapKept
set_option maxHeartbeats 4000000
set_option linter.unusedVariables false
set_option linter.unusedSimpArgs false
theorem AeT{α:Type}:∀ {l T:List α},l.Nodup→(∀ x∈l,x∈T)→l.length≤T.length
  | [],_,_,_=>Nat.zero_le _
  | x :: l,T,hn,hs=>by
    obtain⟨T1,T2,rfl⟩:=List.append_of_mem (hs x (by simp))
    have hn:=List.nodup_cons.1 hn
    have:=AeT (l:=l) (T:=T1++T2) hn.2 fun y hy=>by
      have h1:=hs y (by simp[hy])
      rcases List.mem_append.1 h1 with h1 | h1
      · exact List.mem_append_left _ h1
      · rcases List.mem_cons.1 h1 with rfl | h1
        · exact absurd hy hn.1
        · exact List.mem_append_right _ h1
    simp only[List.length_append,List.length_cons] at this ⊢
    omega
theorem Akl{κ α:Type}[DecidableEq κ]{k:κ}{l:List (κ×α)}(h:k∈l.map (·.1)):∃ v,ZJ l k=some v:=by
  cases hg:ZJ l k with
  | some v=>exact⟨v,rfl⟩
  | none=>exact absurd h (TA hg)
structure Few(T:List ByteArray):Prop where
  size:∀ t∈T,t.size≤2147483648
  len:T.length≤100000000
structure Uq(e:We)(r:Fz)(T:List ByteArray)(a0:WA)(w:World)(a:WA)(l:List En):Prop where
  h:WMr e r w a l
  ar:CX a.er
  nms:∀ c∈a.er.scs,c.Nms (· ∈ T)
  le:a0.Le a
  len:a.scs.length=a0.scs.length
section
variable{e:We}{r:Fz}{T:List ByteArray}(hT:Few T){a0:WA}{w w':World}{a a':WA}{l:List En}
theorem Uq.ext(u:Uq e r T a0 w a l)(x:Ext w w'):Uq e r T a0 w' a l:=⟨u.h.ext x,u.ar,u.nms,u.le,u.len⟩
theorem Uq.dw{K:World→Prop}(u:Uq e r T a0 w a l)(k:∀ w',Uq e r T a0 w' a l→K w'):dw K w:=fun w' d=>k w' (u.ext d.fr)
theorem Uq.sub{l':List En}(u:Uq e r T a0 w a l)(p:l'.Sublist l):Uq e r T a0 w a l':=⟨u.h.sub p,u.ar,u.nms,u.le,u.len⟩
theorem Uq.row{t:TypeId}{sz:Nat}{s:Sl}{cs:List Value}(u:Uq e r T a0 w a l)(he:Ext w w')(ho:Own w' w.heap.size t sz s cs):Uq e r T a0 w' a (.row t sz s cs :: l):=⟨u.h.row_new he ho,u.ar,u.nms,u.le,u.len⟩
theorem ApI{p:Wp}(h:∀ c∈p.scs,c.Nms (· ∈ T)){i:Nat}{f:Sc→Sc}(hf:∀ c,Sc.Nms (· ∈ T) c→Sc.Nms (· ∈ T) (f c)):∀ c∈(p.mod i f).scs,c.Nms (· ∈ T):=LP hf h
theorem Uq.put{i:Nat}{t:ByteArray}{f:Nm→Nm}(u:Uq e r T a0 w a l)(hf:Uo f)(h:WMr e r w' a' l)(x:Ux a a' i t f):Uq e r T a0 w' a' l:=by
  refine⟨h,?_,?_,u.le.trans x.le,?_⟩
  · rw[x.er];exact(Sm.mod a.er i fun s=>.upd s t hf).arnd u.ar
  · rw[x.er];exact ApI u.nms fun c hc=>hc.upd t f
  · rw[← u.len,← EH,← EH,x.er];unfold Wp.mod;simp
include hT in
theorem Uq.few(u:Uq e r T a0 w a l){i:Nat}{s:ScA}(hs:a.scs[i]? = some s):(∀ q∈s.names,q.1.size≤2147483648)∧s.names.length≤2147483648∧s.names.map (·.1)=s.er.names.map (·.1):=by
  have hn:=u.nms s.er (List.mem_of_getElem? (WA.er_at hs))
  have e1:s.er.names.map (·.1)=s.names.map (·.1):=by unfold ScA.er;simp
  obtain⟨h1,h2⟩:=hn
  rw[e1] at h1 h2
  refine⟨fun q hq=>hT.size _ (h2 _ (List.mem_map.2 ⟨q,hq,rfl⟩)),?_,e1.symm⟩
  have:=AeT h1 h2
  rw[List.length_map] at this
  have:=hT.len
  omega
theorem AnJ{i:Nat}{s:ScA}(hs:a.scs[i]? = some s):XV a.er i=Ae9 (s.names.map (·.1)):=by
  unfold XV
  rw[WA.er_at hs]
  show Ae9 (s.er.names.map (·.1))=_
  have e1:s.er.names.map (·.1)=s.names.map (·.1):=by unfold ScA.er;simp
  rw[e1]
theorem Uq.sorted(u:Uq e r T a0 w a l)(hT:Few T){i:Nat}{s:ScA}(hs:a.scs[i]? = some s){K:Sl→World→Prop}
    (c:∀ sl w',sl.n=(XV a.er i).length→Uq e r T a0 w' a (.row 9 1 sl ((XV a.er i).map .string) :: l)→(XV a.er i).length≤2147483648→K sl w') :
    QX (some s.mp) (fun x w=>GW x K w) w:=by
  obtain⟨h1,h2,h3⟩:=u.few hT hs
  refine Aof (u.h.map hs) (u.h.2.sc s (List.mem_of_getElem? hs)).m h1 h2 fun sl w' hn ho he => ?_
  rw[AnJ hs] at c
  have hl:(Ae9 (s.names.map (·.1))).length=s.names.length:=by rw[(EC _).length_eq,List.length_map]
  exact c sl w' (by omega) (u.row he ho) (by omega)
theorem WMr.rowStr{sl:Sl}{ts:List ByteArray}(h:WMr e r w a l)(hx : .row 9 1 sl (ts.map .string)∈l){k:Nat}(hk:k<ts.length){K:ByteArray→World→Prop}(c:K ts[k] w) :
    nn sl.a fun a13=>0≤(k:Int)∧(k:Int)<((sl.n:Nat):Int)∧QO (a13.add ((k:Int).toNat * 1)) K w:=by
  obtain⟨h1,h2⟩:=h.rowAt hx
  rw[List.length_map] at h2
  cases ha:sl.a with
  | none=>have:=(h1.1 ha).1;omega
  | some p=>
    refine JM rfl ⟨by omega,by omega,YS (x:=ts[k]) ?_ c⟩
    have:=h1.2 p ha k (.string ts[k]) (by rw[List.getElem?_map,List.getElem?_eq_getElem hk];rfl)
    simpa using this
theorem Auf{i:Nat}{s:ScA}(hs:a0.scs[i]? = some s){t:ByteArray}(ht:t∈XV a0.er i)(hle:a0.Le a):∃ s' n,a.scs[i]? = some s'∧s'.bs=s.bs∧ZJ s'.names t=some n:=by
  rw[AnJ hs] at ht
  obtain⟨n0,hn0⟩:=Akl ((EC _).mem_iff.1 ht)
  obtain⟨s',h1,h2,h3⟩:=hle i s hs
  obtain⟨n,h4,_⟩:=h3 t n0 hn0
  exact⟨s',n,h1,h2,h4⟩
theorem AtA{t:ByteArray}(ht:t∈T){hm:Int}(hh:0≤hm){a1:WA}(u:Uq e r T a0 w a1 l)(hF:DZ a1.er){k0:Int}{g0:Nat}(hk0 : -1≤k0∧k0+1<(g0:Int))(hk1:k0<a1.scs.length)(hL:homeL a1.er t g0 k0=hm){fin:World→Prop}
    (c:∀ a2 w2,Uq e r T a0 w2 a2 l→DZ a2.er→Sm a1.er a2.er→a2.er=ME hm t g0 k0 a1.er→fin w2) :
    Lp (α:=Int) (fun x55=>[.int .i64 x55]) [.int .i64 k0] (fun x55 again56 w=>
      br (decide (x55 > hm))
        (nn (some (⟨e.bw,0,none⟩:Addr)) fun a57=>
        QN a57 (fun(l58:Sl) w=>
          nn l58.a fun a59=>
          0≤x55∧x55<((l58.n:Nat):Int)∧
          ZA (a59.add (x55.toNat * 1)) (fun(p60:Option Addr) w=>
            UK p60 t (fun(p61:Option Addr) w=>
              nn p61 fun a62=>
              ML (a62.add 5) (fun(m63:Option Nat) w=>
                IW m63 3 0 (fun w=>
                  nn (some (⟨e.bw,0,none⟩:Addr)) fun a64=>
                  QN a64 (fun(l65:Sl) w=>
                    nn l65.a fun a66=>
                    0≤x55∧x55<((l65.n:Nat):Int)∧
                    ZA (a66.add (x55.toNat * 1)) (fun(p67:Option Addr) w=>
                      nn p67 fun a68=>
                      JK (a68.add 2) (fun(i69:Int) w=>
                        again56 [.int .i64 i69] w) w) w) w) w) w) w) w) w)
        (fin w)) w:=by
  refine YE (fun m (k:Int) w'=>∃ (a2:WA) (g:Nat),m=(k+1).toNat∧-1≤k∧k+1<(g:Int)∧k<a2.scs.length∧Uq e r T a0 w' a2 l∧DZ a2.er∧Sm a1.er a2.er∧homeL a2.er t g k=hm∧ME hm t g k a2.er=ME hm t g0 k0 a1.er) (k0+1).toNat k0 rfl ⟨a1,g0,rfl,hk0.1,hk0.2,hk1,u,hF,.refl _,hL,rfl⟩ ?_
  rintro m k w1 ⟨a2,g,rfl,hk,hg,hkl,u,hF,hsm,hL,hP⟩ again hag
  obtain⟨g,rfl⟩:∃ q,g=q+1:=⟨g - 1,by omega⟩
  have hpe:ME hm t (g+1) k a2.er=if k > hm then ME hm t g (ZM a2.er k.toNat) (a2.er.mod k.toNat fun s=>(s.of t).upd t (Nm.put 3)) else a2.er:=by
    conv=>lhs;unfold ME
  refine JE (fun hb => ?_) (fun hb => ?_)
  · have hb:k > hm:=by simpa using hb
    rw[if_pos hb] at hpe
    obtain⟨q1,q2,q3,q4⟩:=Akq u.ar t hg (by omega) (by omega)
    obtain⟨j,rfl⟩:∃ j:Nat,k=j:=⟨k.toNat,by omega⟩
    rw[Int.toNat_natCast] at q1 q2 q3 q4 hpe
    have hj:j<a2.scs.length:=by omega
    obtain⟨sc,hsc⟩:∃ sc,a2.scs[j]? = some sc:=⟨_,List.getElem?_eq_getElem hj⟩
    refine JM rfl (u.h.ldL (u.h.ldP hsc (ApL u.h hsc t fun a3 s3 n3 w3 h3 hs3 hle3 her3 hg3 hb3 hlat3 => ?_)))
    have hsm3:Sm a2.er a3.er:=by rw[her3];exact Sm.mod _ _ fun s=>.of s t
    have hlen3:a3.scs.length=a2.scs.length:=by rw[← EH,hsm3.len,EH]
    have u3:Uq e r T a0 w3 a3 l:=⟨h3,hsm3.arnd u.ar,by rw[her3];exact ApI u.nms fun c hc=>hc.of ht,u.le.trans hle3,by rw[hlen3,u.len]⟩
    refine JM rfl (CH (x:=some n3.un) (u3.h.nmAt hs3 hg3 5 _ rfl) ?_)
    refine Anj u3.h hs3 hg3 3 fun a4 s4 n4 w4 h4 x4 hs4 hb4 hg4 _ _ => ?_
    have u4:=u3.put (AeF 3) h4 x4
    refine JM rfl (u4.h.ldL (u4.h.ldP hs4 (JM rfl (JO (x:=s4.around) (u4.h.sc hs4 2 _ rfl) ?_))))
    have her4:a4.er=a2.er.mod j fun s=>(s.of t).upd t (Nm.put 3):=by rw[x4.er,her3,NY]
    have hsm4:Sm a2.er a4.er:=by rw[her4];exact Sm.mod _ _ fun s=>(Sc.Sm.of s t).trans (.upd _ t (AeF 3))
    have har:ZM a4.er j=s4.around:=by unfold ZM;rw[WA.er_at hs4];rfl
    rw[← hsm4.ar,har] at q2 q3 q4
    rw[← hsm4.ar,har] at hpe
    have hlen4:a4.scs.length=a2.scs.length:=by rw[← EH,hsm4.len,EH]
    have hF4:DZ a4.er:=by
      intro i u hu
      rw[hsm4.home]
      rw[her4] at hu
      rcases Agt _ _ _ _ _ _ hu with hu | ⟨rfl,rfl,_⟩
      · exact hF i u hu
      · rw[q1,hL];exact hh
    refine hag _ s4.around w4 (by omega) ⟨a4,g,rfl,q3,by omega,by omega,u4,hF4,hsm.trans hsm4,?_,?_⟩
    · rw[hsm4.homeL,Aco u.ar t g (g+1) _ (by omega) (by omega),q2,hL]
    · rw[← hP,hpe,her4]
  · have hb:¬ k > hm:=by simpa using hb
    rw[if_neg hb] at hpe
    exact c a2 w1 u hF hsm (by rw[← hP,hpe])
end
end Go.Proofs.YtjiagmjfnbljjaaGreatDoor
end
section
namespace Go.Proofs.YtjiagmjfnbljjaaGreatDoor
open Go Go.MapKept
set_option maxHeartbeats 4000000
set_option linter.unusedVariables false
set_option linter.unusedSimpArgs false
theorem Aqu{s:Sc}{t:ByteArray}(h:s.gives t=true):∃ n,ZJ s.names t=some n:=by
  unfold Sc.gives at h
  cases hg:ZJ s.names t with
  | some n=>exact⟨n,rfl⟩
  | none=>rw[hg] at h;simp at h
theorem At3(s:Sc)(t:ByteArray)(f g:Nm→Nm):(s.upd t f).upd t g=s.upd t fun n=>g (f n):=by
  unfold Sc.upd
  simp only[List.map_map]
  congr 1
  refine List.map_congr_left fun p _ => ?_
  simp only[Function.comp]
  by_cases h:p.1=t
  · rw[if_pos h,if_pos h,if_pos h]
  · rw[if_neg h,if_neg h,if_neg h]
theorem AqC{w:World}{b:Nat}{es:Array MapEntry}{clock:Nat}{ks:List (Int×Int)}(hb:w.heap[b]? = some (.map es clock))(hm:FC (.int .i64) (.int .i64) es clock ks)(k:Int){K:UT→World→Prop}(c:∀ v,K ⟨v,(ZJ ks k).isSome⟩ w):Aa0 (some b) k K w:=by
  have hz:(zeroValue 3).run PP w = .ok (.int .i64 0) w:=Aow w
  have:=Aex (P:=PP) (w:=w) (ek:=Value.int .i64) (ev:=Value.int .i64) AmW ArI hz (fun _=>rfl) AmS hb hm k true
  refine YZ (h:=AX) ⟨(ZJ ks k).getD 0,(ZJ ks k).isSome⟩ ?_ (c _)
  rw[this]
  cases ZJ ks k with
  | none=>rfl
  | some n=>rfl
section
variable{e:We}{r:Fz}{T:List ByteArray}{a0:WA}{w w':World}{a a':WA}{l:List En}
theorem Uq.rebase{a1:WA}(u:Uq e r T a0 w a l):Uq e r T a w a l:=⟨u.h,u.ar,u.nms,.refl a,rfl⟩
theorem Uq.base(u:Uq e r T a0 w a l)(v:Uq e r T a w' a' l):Uq e r T a0 w' a' l:=⟨v.h,v.ar,v.nms,u.le.trans v.le,by rw[v.len,u.len]⟩
theorem Av5(u:Uq e r T a0 w a l){i:Nat}{t:ByteArray}(ht:t∈XV a.er i):t∈T:=by
  unfold XV at ht
  cases hs:a.er.scs[i]? with
  | none=>rw[hs] at ht;cases ht
  | some c=>
    rw[hs] at ht
    exact(u.nms c (List.mem_of_getElem? hs)).2 t ((EC _).mem_iff.1 ht)
theorem AsJ(hT:Few T){i:Nat}{s0:ScA}(hs0:a.scs[i]? = some s0){sl:Sl}(hn:sl.n=(XV a.er i).length)(hlen:(XV a.er i).length≤2147483648)(u:Uq e r T a w a (.row 9 1 sl ((XV a.er i).map .string) :: l)){fin:World→Prop}
    (c:∀ a2 w2,Uq e r T a w2 a2 (.row 9 1 sl ((XV a.er i).map .string) :: l)→a2.L=a.L→a2.er=(XV a.er i).foldl (AlJ i) a.er→fin w2) :
    Lp (α:=Int) (fun x11=>[.int .i64 x11]) [.int .i64 0] (fun x11 again12 w=>
      br (decide (x11<(sl.n:Int)))
        (nn sl.a fun a13=>
        0≤x11∧x11<((sl.n:Nat):Int)∧
        QO (a13.add (x11.toNat * 1)) (fun(s14:ByteArray) w=>
          dw (fun w=>
            ∃ S15:World→Prop,S15 w∧
            nn (some (⟨s0.bs,0,none⟩:Addr)) fun a16=>
            IK S15 (a16.add 3) fun(m17:Option Nat)=>
            IM S15 m17 s14 fun(p18:Option Addr)=>
            nn p18 fun a19=>
            Acq S15 (a19.add 5) fun(m20:Option Nat)=>
            IC (some ⟨e.bw,0,none⟩) (i:Int) s14 (fun(i21:Int) w=>
              S15 w∧
              IW m20 i21 0 (fun w=>
                again12 [.int .i64 (IntKind.i64.wrap (x11+1))] w) w) w) w) w)
        (fin w)) w:=by
  refine YE (fun m (x:Int) w'=>∃ (k:Nat) (a':WA),x=k∧m+k=(XV a.er i).length∧Uq e r T a w' a' (.row 9 1 sl ((XV a.er i).map .string) :: l)∧a'.L=a.L∧((XV a.er i).drop k).foldl (AlJ i) a'.er=(XV a.er i).foldl (AlJ i) a.er) (XV a.er i).length (0:Int) rfl ⟨0,a,rfl,rfl,u,rfl,rfl⟩ ?_
  rintro m x w1 ⟨k,a',rfl,hm,u',hL,hf⟩ again hag
  refine JE (fun hlt => ?_) (fun hge => ?_)
  · have hlt:k<(XV a.er i).length:=by simp at hlt;omega
    refine u'.h.rowStr me0 hlt (u'.dw fun w u' => ?_)
    obtain⟨s',n,hs',hbs,hg⟩:=Auf hs0 (List.getElem_mem hlt) u'.le
    have hok:=u'.h.2.sc s' (List.mem_of_getElem? hs')
    have hS:JD w ⟨s'.bs,0,none⟩ s'.cells.toList∧w.heap[s'.mp]? = some (.map s'.me s'.mc)∧JD w ⟨n.bn,0,none⟩ n.cells.toList:=⟨u'.h.sc hs',u'.h.map hs',u'.h.nmAt hs' hg⟩
    refine⟨fun w'=>JD w' ⟨s'.bs,0,none⟩ s'.cells.toList∧w'.heap[s'.mp]? = some (.map s'.me s'.mc)∧JD w' ⟨n.bn,0,none⟩ n.cells.toList,hS,JM rfl ?_⟩
    rw[← hbs]
    refine WI (x:=some s'.mp) (fun w' h=>h.1 3 _ rfl) (ArU (fun w' h=>h.2.1) hok.m _ ?_)
    rw[hg]
    refine JM rfl (Ajh (x:=some n.un) (fun w' h=>h.2.2 5 _ rfl) ?_)
    refine At8 u'.h u'.ar hs' hg ⟨hS,?_⟩
    refine Anj u'.h hs' hg _ fun a2 s2 n2 w2 h2 x2 hs2 _ _ _ _ => ?_
    rw[ZS (n:=(XV a.er i).length) (by omega) (by omega) (by omega)]
    refine hag (m - 1) ((k:Int)+1) w2 (by omega) ⟨k+1,a2,by omega,by omega,u'.put (AeF _) h2 x2,by rw[x2.L,hL],?_⟩
    rw[← hf,x2.er,List.drop_eq_getElem_cons hlt]
    rfl
  · have hge:k=(XV a.er i).length:=by simp at hge;omega
    rw[hge,List.drop_length] at hf
    exact c a' w1 u' hL hf
theorem AsK(hT:Few T){i:Nat}(hi:i<a.scs.length){sl:Sl}(hn:sl.n=(XV a.er i).length)(hlen:(XV a.er i).length≤2147483648)(u:Uq e r T a w a (.row 9 1 sl ((XV a.er i).map .string) :: l))(hF:DZ a.er){fin:World→Prop}
    (c:∀ a2 w2,Uq e r T a w2 a2 (.row 9 1 sl ((XV a.er i).map .string) :: l)→DZ a2.er→a2.er=(XV a.er i).foldl (EX i) a.er→fin w2) :
    Lp (α:=Int) (fun x34=>[.int .i64 x34]) [.int .i64 0] (fun x34 again35 w=>
                          br (decide (x34<(sl.n:Int)))
                            (nn sl.a fun a36=>
                            0≤x34∧x34<((sl.n:Nat):Int)∧
                            QO (a36.add (x34.toNat * 1)) (fun(s37:ByteArray) w=>
                              nn (some (⟨e.bw,0,none⟩:Addr)) fun a38=>
                              QN a38 (fun(l39:Sl) w=>
                                nn l39.a fun a40=>
                                0≤(i:Int)∧(i:Int)<((l39.n:Nat):Int)∧
                                ZA (a40.add ((i:Int).toNat * 1)) (fun(p41:Option Addr) w=>
                                  nn p41 fun a42=>
                                  ZL (a42.add 3) (fun(m43:Option Nat) w=>
                                    YT m43 s37 (fun(p44:Option Addr) w=>
                                      nn p44 fun a45=>
                                      ML (a45.add 5) (fun(m46:Option Nat) w=>
                                        Aa0 m46 3 (fun(x47:UT) w=>
                                          br (!x47.x1)
                                            (again35 [.int .i64 (IntKind.i64.wrap (x34+1))] w)
                                            (DJ (some ⟨e.bw,0,none⟩) (i:Int) s37 (fun(i48:Int) w=>
                                              nn (some (⟨e.bw,0,none⟩:Addr)) fun a49=>
                                              QN a49 (fun(l50:Sl) w=>
                                                nn l50.a fun a51=>
                                                0≤(i:Int)∧(i:Int)<((l50.n:Nat):Int)∧
                                                ZA (a51.add ((i:Int).toNat * 1)) (fun(p52:Option Addr) w=>
                                                  nn p52 fun a53=>
                                                  JK (a53.add 2) (fun(i54:Int) w=>
                                                    Lp (α:=Int) (fun x55=>[.int .i64 x55]) [.int .i64 i54] (fun x55 again56 w=>
                                                      br (decide (x55 > i48))
                                                        (nn (some (⟨e.bw,0,none⟩:Addr)) fun a57=>
                                                        QN a57 (fun(l58:Sl) w=>
                                                          nn l58.a fun a59=>
                                                          0≤x55∧x55<((l58.n:Nat):Int)∧
                                                          ZA (a59.add (x55.toNat * 1)) (fun(p60:Option Addr) w=>
                                                            UK p60 s37 (fun(p61:Option Addr) w=>
                                                              nn p61 fun a62=>
                                                              ML (a62.add 5) (fun(m63:Option Nat) w=>
                                                                IW m63 3 0 (fun w=>
                                                                  nn (some (⟨e.bw,0,none⟩:Addr)) fun a64=>
                                                                  QN a64 (fun(l65:Sl) w=>
                                                                    nn l65.a fun a66=>
                                                                    0≤x55∧x55<((l65.n:Nat):Int)∧
                                                                    ZA (a66.add (x55.toNat * 1)) (fun(p67:Option Addr) w=>
                                                                      nn p67 fun a68=>
                                                                      JK (a68.add 2) (fun(i69:Int) w=>
                                                                        again56 [.int .i64 i69] w) w) w) w) w) w) w) w) w)
                                                        (nn (some (⟨e.bw,0,none⟩:Addr)) fun a70=>
                                                        QN a70 (fun(l71:Sl) w=>
                                                          nn l71.a fun a72=>
                                                          0≤i48∧i48<((l71.n:Nat):Int)∧
                                                          ZA (a72.add (i48.toNat * 1)) (fun(p73:Option Addr) w=>
                                                            nn p73 fun a74=>
                                                            ZL (a74.add 3) (fun(m75:Option Nat) w=>
                                                              YT m75 s37 (fun(p76:Option Addr) w=>
                                                                nn p76 fun a77=>
                                                                ML (a77.add 5) (fun(m78:Option Nat) w=>
                                                                  rn (Builtin.delete_ #[105,3] 0 #[.map m78,.int .i64 1]) (QK) (fun(x79:Unit) w=>
                                                                    nn p76 fun a80=>
                                                                    ML (a80.add 5) (fun(m81:Option Nat) w=>
                                                                      IW m81 2 0 (fun w=>
                                                                        again35 [.int .i64 (IntKind.i64.wrap (x34+1))] w) w) w) w) w) w) w) w) w)) w) w) w) w) w)) w) w) w) w) w) w) w)
                            (fin w)) w:=by
  refine YE (fun m (x:Int) w'=>∃ (k:Nat) (a':WA),x=k∧m+k=(XV a.er i).length∧Uq e r T a w' a' (.row 9 1 sl ((XV a.er i).map .string) :: l)∧DZ a'.er∧((XV a.er i).drop k).foldl (EX i) a'.er=(XV a.er i).foldl (EX i) a.er) (XV a.er i).length (0:Int) rfl ⟨0,a,rfl,rfl,u,hF,rfl⟩ ?_
  obtain⟨s0,hs0⟩:∃ s0,a.scs[i]? = some s0:=⟨_,List.getElem?_eq_getElem hi⟩
  have u0:=u
  rintro m x w1 ⟨k,a',rfl,hm,u',hF',hf⟩ again hag
  refine JE (fun hlt => ?_) (fun hge => ?_)
  · have hlt:k<(XV a.er i).length:=by simp at hlt;omega
    rw[List.drop_eq_getElem_cons hlt,List.foldl_cons] at hf
    have htT:(XV a.er i)[k]∈T:=Av5 u0 (List.getElem_mem hlt)
    obtain⟨s',n,hs',hbs,hg⟩:=Auf hs0 (List.getElem_mem hlt) u'.le
    refine u'.h.rowStr me0 hlt ?_
    generalize (XV a.er i)[k] = t at hf htT hg
    refine JM rfl (u'.h.ldL (u'.h.ldP hs' (JM rfl (u'.h.ldM hs' (u'.h.lkN hs' hg (JM rfl ?_))))))
    obtain⟨hub,huo⟩:=u'.h.usAt hs' hg
    refine CH (x:=some n.un) (u'.h.nmAt hs' hg 5 _ rfl) (AqC hub huo.m 3 fun v => ?_)
    have hnm:=AmX hs' hg
    refine JE (fun hb => ?_) (fun hb => ?_)
    · have he:EX i a'.er t=a'.er:=by
        unfold EX
        rw[hnm,if_pos]
        cases hq:ZJ n.n.uses 3 with
        | none=>rfl
        | some v=>rw[hq] at hb;cases hb
      rw[he] at hf
      rw[ZS (n:=(XV a.er i).length) (by omega) (by omega) (by omega)]
      exact hag (m - 1) ((k:Int)+1) w1 (by omega) ⟨k+1,a',by omega,by omega,u',hF',hf⟩
    · have hu3:GK a'.er i t 3=true:=by
        unfold GK
        rw[hnm]
        simpa using hb
      have h0:=hF' i t hu3
      have he:EX i a'.er t=(ME (VZ a'.er i t) t (a'.er.scs.length+1) (ZM a'.er i) a'.er).mod (VZ a'.er i t).toNat fun s=>s.upd t fun n=>(n.del 1).put 2:=by
        unfold EX
        rw[if_neg]
        unfold GK at hu3
        cases hq:ZJ (a'.er.nmOf i t).uses 3 with
        | none=>rw[hq] at hu3;cases hu3
        | some v=>simp
      rw[he] at hf
      have hil:i<a'.scs.length:=(List.getElem?_eq_some_iff.1 hs').1
      refine AmQ u'.h u'.ar hil t (JM rfl (u'.h.ldL (u'.h.ldP hs' (JM rfl (JO (x:=s'.around) (u'.h.sc hs' 2 _ rfl) ?_)))))
      have har:ZM a'.er i=s'.around:=by unfold ZM;rw[WA.er_at hs'];rfl
      rw[har] at hf
      obtain⟨hp1,hp2,cc,hp3,hp4⟩:=Acp u'.ar h0
      have hal:=SZ u'.ar i
      have hau:=u'.ar i s'.er (WA.er_at hs')
      have hau2:s'.er.around=s'.around:=rfl
      have hL:=Akr h0
      rw[har] at hL hal
      refine AtA (T:=T) htT h0 u' hF' hal (by rw[hau2] at hau;omega) hL fun a2 w2 u2 hF2 hsm2 her2 => ?_
      rw[← her2] at hf
      have hal2:=SZ u'.ar i
      obtain⟨_,hkeep⟩:=AeO u'.ar _ h0 t (a'.er.scs.length+1) s'.around (a'.er.scs.length+1) hal.2 hL hF'
      obtain⟨h,hh⟩:∃ h:Nat,VZ a'.er i t=h:=⟨(VZ a'.er i t).toNat,by omega⟩
      rw[hh] at hf hkeep hp3 her2 ⊢
      rw[Int.toNat_natCast] at hf hp3
      have hk2:=hkeep h (Int.le_refl _)
      rw[← her2,hp3] at hk2
      have hhl:h<a2.scs.length:=by
        have:=(List.getElem?_eq_some_iff.1 hk2).1
        rw[EH] at this;exact this
      obtain⟨s2,hs2⟩:∃ s2,a2.scs[h]? = some s2:=⟨_,List.getElem?_eq_getElem hhl⟩
      rw[WA.er_at hs2] at hk2
      simp only[Option.some.injEq] at hk2
      obtain⟨nn2,hnn2⟩:=Aqu hp4
      rw[← hk2,s2.er_get] at hnn2
      obtain⟨n2,hg2⟩:∃ n2,ZJ s2.names t=some n2:=by
        cases hq:ZJ s2.names t with
        | none=>rw[hq] at hnn2;cases hnn2
        | some v=>exact⟨v,rfl⟩
      refine JM rfl (u2.h.ldL (u2.h.ldP hs2 (JM rfl (u2.h.ldM hs2 (u2.h.lkN hs2 hg2 (JM rfl (CH (x:=some n2.un) (u2.h.nmAt hs2 hg2 5 _ rfl) ?_)))))))
      refine At5 u2.h hs2 hg2 1 fun a3 s3 n3 w3 h3 x3 hs3 hb3 hg3 hn3 _ => ?_
      have u3:=u2.put (Avu 1) h3 x3
      rw[← hn3]
      refine JM rfl (CH (x:=some n3.un) (u3.h.nmAt hs3 hg3 5 _ rfl) ?_)
      refine Anj u3.h hs3 hg3 2 fun a4 s4 n4 w4 h4 x4 hs4 hb4 hg4 hn4 _ => ?_
      have u4:=u3.put (AeF 2) h4 x4
      have her4:a4.er=EX i a'.er t:=by
        rw[he,x4.er,x3.er,NY,her2,hh,Int.toNat_natCast,har]
        congr 1
        funext s
        rw[At3]
      rw[ZS (n:=(XV a.er i).length) (by omega) (by omega) (by omega)]
      refine hag (m - 1) ((k:Int)+1) w4 (by omega) ⟨k+1,a4,by omega,by omega,u4,?_,?_⟩
      · rw[her4];exact AeP u'.ar hF' i t
      · rw[her4,he,hh,Int.toNat_natCast,har,← her2]
        exact hf
  · have hge:k=(XV a.er i).length:=by simp at hge;omega
    rw[hge,List.drop_length] at hf
    exact c a' w1 u' hF' hf
theorem At6(hT:Few T)(hlen:a.scs.length≤2147483648)(u:Uq e r T a w a l)(hF:DZ (BV a.er)){K:Unit→World→Prop}
    (c:∀ a2 w2,Uq e r T a w2 a2 l→a2.er=BW (BV a.er)→K () w2):FB (some ⟨e.bw,0,none⟩) K w:=by
  refine Ace _ _ _ ?_
  unfold RU
  have hrow:=u.h.rowL.2
  refine JM rfl (u.h.ldL ?_)
  refine YE (fun m (x:Int) w'=>∃ (k:Nat) (a':WA),x=k∧m+k=a.scs.length∧Uq e r T a w' a' l∧a'.L=a.L∧((List.range a.scs.length).drop k).foldl (fun p i=>(XV p i).foldl (AlJ i) p) a'.er=BV a.er) a.scs.length (0:Int) rfl ⟨0,a,rfl,rfl,u,rfl,by unfold BV;rw[EH];rfl⟩ ?_
  rintro m x w1 ⟨k,a1,rfl,hm,u1,hL,hf⟩ again hag
  refine JE (fun hlt => ?_) (fun hge => ?_)
  · have hlt:k<a.scs.length:=by simp at hlt;omega
    have hk1:k<a1.scs.length:=by rw[u1.len];exact hlt
    obtain⟨s,hs⟩:∃ s,a1.scs[k]? = some s:=⟨_,List.getElem?_eq_getElem hk1⟩
    rw[← hL]
    refine u1.h.ldP hs (JM rfl (u1.h.ldM hs ?_))
    · refine(u1.rebase (a1:=a1)).sorted hT hs fun sl w3 hn u3 hl3 => ?_
      refine AsJ hT hs hn hl3 u3 fun a4 w4 u4 hL4 her4 => ?_
      rw[ZS (n:=a.scs.length) (by omega) (by omega) (by omega)]
      refine hag (m - 1) ((k:Int)+1) w4 (by omega) ⟨k+1,a4,by omega,by omega,u1.base (u4.sub (List.sublist_cons_self _ _)),by rw[hL4,hL],?_⟩
      have hkr:k<(List.range a.scs.length).length:=by simp;omega
      rw[← hf,List.drop_eq_getElem_cons hkr,her4]
      simp
  · have hge:k=a.scs.length:=by simp at hge;omega
    rw[hge,List.drop_of_length_le (by simp)] at hf
    have her:a1.er=BV a.er:=hf
    refine JM rfl (u1.h.ldL ?_)
    have hlen1:a1.scs.length=a.scs.length:=u1.len
    have hn1:=u1.h.rowL.2
    have hw:IntKind.i64.wrap ((a1.L.n:Int) - 1)=(a1.scs.length:Int) - 1:=by rw[JY (by omega) (by omega)];omega
    rw[hw]
    have hBs:∀ q:Wp,q.scs.length=a1.scs.length→BW q=(List.range a1.scs.length).reverse.foldl (fun p i=>(XV p i).foldl (EX i) p) q:=by
      intro q hq;unfold BW;rw[hq]
    refine YE (fun m (y:Int) w'=>∃ (a2:WA) (k:Nat),m=k∧y=(k:Int) - 1∧k≤a1.scs.length∧Uq e r T a w' a2 l∧DZ a2.er∧(List.range k).reverse.foldl (fun p i=>(XV p i).foldl (EX i) p) a2.er=BW (BV a.er)) a1.scs.length ((a1.scs.length:Int) - 1) rfl ⟨a1,a1.scs.length,rfl,rfl,Nat.le_refl _,u1,by rw[her];exact hF,by rw[← her,hBs _ (EH a1)]⟩ ?_
    rintro m y w1 ⟨a2,k,rfl,rfl,hk,u2,hF2,hf⟩ again hag
    refine JE (fun hb => ?_) (fun hb => ?_)
    · have hb:1≤m:=by simp at hb;omega
      obtain⟨i,rfl⟩:∃ i,m=i+1:=⟨m - 1,by omega⟩
      have hy:((i+1:Nat):Int) - 1=(i:Int):=by omega
      rw[hy]
      have hlen2:a2.scs.length=a.scs.length:=u2.len
      have hi:i<a2.scs.length:=by omega
      obtain⟨s,hs⟩:∃ s,a2.scs[i]? = some s:=⟨_,List.getElem?_eq_getElem hi⟩
      refine JM rfl (u2.h.ldL (u2.h.ldP hs (JM rfl (u2.h.ldM hs ?_))))
      refine(u2.rebase (a1:=a2)).sorted hT hs fun sl w3 hn u3 hl3 => ?_
      refine AsK hT hi hn hl3 u3 hF2 fun a4 w4 u4 hF4 her4 => ?_
      have hw2:IntKind.i64.wrap ((i:Int) - 1)=(i:Int) - 1:=JY (by omega) (by omega)
      rw[hw2]
      refine hag i ((i:Int) - 1) w4 (by omega) ⟨a4,i,rfl,rfl,by omega,u2.base (u4.sub (List.sublist_cons_self _ _)),hF4,?_⟩
      rw[← hf,List.range_succ,List.reverse_append,her4]
      rfl
    · have hb:m=0:=by simp at hb;omega
      subst hb
      exact Rt.mk (h:=QK) () (c a2 w1 u2 hf)
end
end Go.Proofs.YtjiagmjfnbljjaaGreatDoor
end
section
namespace Go.Proofs.YtjiagmjfnbljjaaGreatDoor
open Go
set_option maxHeartbeats 4000000
set_option linter.unusedVariables false
theorem Arz(r:Nat):(Utf8.encode (r:Int)).data.toList=Lib.encodeRune (r:Int):=by
  have b1:∀ n:Nat,UInt8.ofNat n=((n:Int)).toNat.toUInt8:=fun n=>by simp
  unfold Lib.encodeRune Lib.encodeRuneZ
  by_cases c1:r<128
  · have v:Utf8.valid (r:Int)=true:=by simp[Utf8.valid];omega
    rw[if_pos (by omega)]
    simp[Utf8.encode,v,c1]
  rw[if_neg (by omega)]
  by_cases c2:r<2048
  · have v:Utf8.valid (r:Int)=true:=by simp[Utf8.valid];omega
    rw[if_pos (by omega)]
    simp only[Utf8.encode,v,if_true,Int.toNat_natCast,c1,if_false,c2,List.map_cons,List.map_nil]
    have e1:(192+(r:Int) / 64).toNat=192+r / 64:=by omega
    have e2:(128+(r:Int) % 64).toNat=128+r % 64:=by omega
    rw[e1,e2]
  rw[if_neg (by omega)]
  by_cases hb:(55296≤r∧r≤57343)∨1114111<r
  · have v:Utf8.valid (r:Int)=false:=by simp[Utf8.valid];omega
    rw[if_neg (by omega),if_neg (by omega)]
    simp[Utf8.encode,v,Utf8.runeError]
  have v:Utf8.valid (r:Int)=true:=by simp[Utf8.valid];omega
  by_cases c3:r<65536
  · rw[if_pos (by omega)]
    simp only[Utf8.encode,v,if_true,Int.toNat_natCast,c1,if_false,c2,c3,List.map_cons,List.map_nil]
    have e1:(224+(r:Int) / 4096).toNat=224+r / 4096:=by omega
    have e2:(128+(r:Int) / 64 % 64).toNat=128+r / 64 % 64:=by omega
    have e3:(128+(r:Int) % 64).toNat=128+r % 64:=by omega
    rw[e1,e2,e3]
  · rw[if_neg (by omega),if_pos (by omega)]
    simp only[Utf8.encode,v,if_true,Int.toNat_natCast,c1,if_false,c2,c3,List.map_cons,List.map_nil]
    have e1:(240+(r:Int) / 262144).toNat=240+r / 262144:=by omega
    have e2:(128+(r:Int) / 4096 % 64).toNat=128+r / 4096 % 64:=by omega
    have e3:(128+(r:Int) / 64 % 64).toNat=128+r / 64 % 64:=by omega
    have e4:(128+(r:Int) % 64).toNat=128+r % 64:=by omega
    rw[e1,e2,e3,e4]
def Aa3(s:ByteArray)(k pos:Nat):List UInt8:=(MA s k pos).flatMap Lib.encodeRune
theorem Aqj(l:List Int)(h:∀ x∈l,0≤x):∀ a:ByteArray,(l.foldl (fun r n=>r++Utf8.encode n) a).data.toList=a.data.toList++l.flatMap Lib.encodeRune:=by
  induction l with
  | nil=>intro a;simp
  | cons x l ih=>
    intro a
    have hx:=h x (by simp)
    rw[List.foldl_cons,ih (fun y hy=>h y (by simp[hy])),List.flatMap_cons,ByteArray.data_append,Array.toList_append,List.append_assoc]
    congr 1
    congr 1
    obtain⟨n,rfl⟩:∃ n:Nat,x=n:=⟨x.toNat,by omega⟩
    exact Arz n
theorem Aml(s:ByteArray):∀ k pos,∀ x∈MA s k pos,0≤x
  | 0,_,x,h=>by simp[MA] at h
  | k+1,pos,x,h=>by
    unfold MA at h
    split at h
    · rcases List.mem_cons.1 h with rfl | h
      · omega
      · exact Aml s k _ x h
    · cases h
theorem AiU(s:ByteArray):∀ (k i:Nat) (r:List UInt8),s.size≤i+k→ByteArray.toList.loop s i r=r.reverse++s.data.toList.drop i
  | 0,i,r,h=>by
    unfold ByteArray.toList.loop
    have hs:s.size=s.data.size:=rfl
    rw[if_neg (by omega),List.drop_eq_nil_of_le (by simp;omega),List.append_nil]
  | k+1,i,r,h=>by
    unfold ByteArray.toList.loop
    have hs:s.size=s.data.size:=rfl
    by_cases hi:i<s.size
    · rw[if_pos hi,AiU s k (i+1) _ (by omega)]
      have hl:i<s.data.toList.length:=by simp;omega
      rw[List.drop_eq_getElem_cons hl,List.reverse_cons,List.append_assoc]
      congr 1
      simp only[List.cons_append,List.nil_append,Array.getElem_toList]
      congr 1
      show s.data[i]! = _
      rw[getElem!_pos s.data i (by omega)]
    · rw[if_neg hi,List.drop_eq_nil_of_le (by simp;omega),List.append_nil]
theorem IX(s:ByteArray):s.toList=s.data.toList:=by
  unfold ByteArray.toList
  rw[AiU s s.size 0 [] (by omega)]
  simp
theorem Amo(s:ByteArray):∀ (k pos:Nat),s.size≤k+pos→(Lib.validD (s.data.toList.drop pos)=true→Aa3 s k pos=s.data.toList.drop pos)∧(Lib.validD (s.data.toList.drop pos)=false→(s.data.toList.drop pos).length<(Aa3 s k pos).length)∧(s.data.toList.drop pos).length≤(Aa3 s k pos).length
  | 0,pos,h=>by
    have:s.data.toList.drop pos = []:=List.drop_eq_nil_of_le (by simpa using (by simpa using h:s.data.size≤pos))
    rw[this,Lib.validD_nil]
    simp[Aa3,MA]
  | k+1,pos,h=>by
    by_cases hp:pos<s.size
    · have hne:s.data.toList.drop pos≠[]:=by
        intro he
        have:=List.drop_eq_nil_iff.1 he
        simp at this
        have hs:s.size=s.data.size:=rfl
        omega
      have hd:=Lib.decodeL_drop s pos
      have hw:=Lib.decodeL_width (s.data.toList.drop pos)
      have hle:=Lib.decodeL_le _ hne
      obtain⟨h1,h2,h3⟩:=Amo s k (pos+(Utf8.decode s pos).2) (by rw[← hd];omega)
      have hr:Aa3 s (k+1) pos=Lib.encodeRune ((Utf8.decode s pos).1:Int)++Aa3 s k (pos+(Utf8.decode s pos).2):=by
        unfold Aa3
        conv=>lhs;unfold MA
        rw[if_pos hp,List.flatMap_cons]
      have hdd:(s.data.toList.drop pos).drop (Utf8.decode s pos).2=s.data.toList.drop (pos+(Utf8.decode s pos).2):=by rw[List.drop_drop]
      rw[Lib.validD_step _ hne,hd,hdd,hr]
      rw[hd] at hw hle
      have hlen:(s.data.toList.drop pos).length=(Utf8.decode s pos).2+(s.data.toList.drop (pos+(Utf8.decode s pos).2)).length:=by
        rw[← hdd,List.length_drop (l:=s.data.toList.drop pos)];omega
      by_cases hv:(Utf8.decode s pos).1=65533∧(Utf8.decode s pos).2=1
      · rw[if_pos hv]
        have he:(Lib.encodeRune ((Utf8.decode s pos).1:Int)).length=3:=by rw[hv.1];rfl
        refine⟨fun h=>(by cases h),fun _ => ?_,?_⟩
        · rw[List.length_append,he,hlen];omega
        · rw[List.length_append,he,hlen];omega
      · rw[if_neg hv]
        have he:=Lib.encode_decode _ hne (by rw[hd];exact hv)
        rw[hd] at he
        refine⟨fun h => ?_,fun h => ?_,?_⟩
        · rw[h1 h,he,← hdd,List.take_append_drop]
        · have:=h2 h
          rw[List.length_append,he,List.length_take,hlen];omega
        · rw[List.length_append,he,List.length_take,hlen];omega
    · have:s.data.toList.drop pos = []:=List.drop_eq_nil_of_le (by have hs:s.size=s.data.size:=rfl;simp;omega)
      rw[this,Lib.validD_nil]
      have hr:Aa3 s (k+1) pos = []:=by unfold Aa3 MA;rw[if_neg hp];rfl
      rw[hr]
      simp
theorem AnG(s:ByteArray):MD s=Lib.validD s.data.toList:=by
  have h:=Amo s s.size 0 (by omega)
  rw[List.drop_zero] at h
  have e:(runesBytes (EV s)).data.toList=Aa3 s s.size 0:=by
    unfold runesBytes EV
    rw[Aqj _ (Aml s _ _)]
    rfl
  unfold MD
  rw[IX,IX,e]
  cases hv:Lib.validD s.data.toList with
  | true=>rw[h.1 hv];simp
  | false=>
    have:=h.2.1 hv
    rw[beq_eq_false_iff_ne]
    intro he
    rw[he] at this
    omega
theorem AsM{w:World}(hT:Lib.Utf8Tabs 0 1 w):VOk 2 w:=by
  intro w' s hf hs K hK
  have hT':Lib.Utf8Tabs 0 1 w':=by
    obtain⟨h1,h2⟩:=hT
    exact⟨fun c hc=>hf.cell (by show ¬ 2≤0;omega) (h1 c hc),fun i hi=>⟨hf.cell (by show ¬ 2≤1;omega) (h2 i hi).1,hf.cell (by show ¬ 2≤1;omega) (h2 i hi).2⟩⟩
  refine(Any.utf8_ValidString Ly.laysValid s w' (by omega) hT').mono fun e w2 hx => ?_
  obtain⟨rfl,hb⟩:=hx
  rw[← AnG]
  exact⟨_,rfl,hK w2 (Below.ext hb)⟩
end Go.Proofs.YtjiagmjfnbljjaaGreatDoor
end
section
namespace Go.Proofs.YtjiagmjfnbljjaaGreatDoor
open Go Go.MapKept
set_option maxHeartbeats 4000000
set_option linter.unusedVariables false
set_option linter.unusedSimpArgs false
section
variable{α:Type}{f:α→List Value}{z:Nat}(hz:∀ x,(f x).length=z)
include hz
theorem Abw(xs:List α):(xs.flatMap f).length=xs.length * z:=by
  induction xs with
  | nil=>simp
  | cons x r ih=>rw[List.flatMap_cons,List.length_append,ih,hz,List.length_cons,Nat.succ_mul];omega
theorem PN{xs:List α}{i:Nat}{x:α}(h:xs[i]? = some x)(k:Nat)(v:Value)(hk:(f x)[k]? = some v):(xs.flatMap f)[i * z+k]? = some v:=by
  have hi:=(List.getElem?_eq_some_iff.1 h).1
  have hx:xs[i] = x:=(List.getElem?_eq_some_iff.1 h).2
  have hd:xs=xs.take i++x :: xs.drop (i+1):=by
    rw[← hx,List.getElem_cons_drop,List.take_append_drop]
  have hk6:=(List.getElem?_eq_some_iff.1 hk).1
  have hl:((xs.take i).flatMap f).length=i * z:=by rw[Abw hz,List.length_take];rw[Nat.min_eq_left (by omega)]
  have hf:xs.flatMap f=(xs.take i).flatMap f++(f x++(xs.drop (i+1)).flatMap f):=by
    conv=>lhs;rw[hd]
    rw[List.flatMap_append,List.flatMap_cons]
  rw[hf,List.getElem?_append_right (by omega),hl,Nat.add_sub_cancel_left,List.getElem?_append_left hk6]
  exact hk
theorem Av7(hz0:0<z){cur:Array Value}{ys:List α}{n i:Nat}{y:α}(h:cur.toList.take (n * z)=ys.flatMap f)(hys:ys.length=n)(hs:n * z≤cur.size){o:Nat}{v:Value}(hy:ys[i]? = some y){x:α}(ho:o<z)(hx:f x=(f y).set o v) :
    (ZI cur (i * z+o) [v]).toList.take (n * z)=(ys.set i x).flatMap f:=by
  have hi:i<ys.length:=(List.getElem?_eq_some_iff.1 hy).1
  have hiz:i * z+z≤n * z:=by
    have:(i+1) * z≤n * z:=Nat.mul_le_mul_right z (by omega)
    rw[Nat.succ_mul] at this;exact this
  apply List.ext_getElem?
  intro j
  rw[List.getElem?_take]
  by_cases hj:j<n * z
  · rw[if_pos hj,Array.getElem?_toList,BK _ _ _ _ (by simp;omega)]
    have hdm:j=j / z * z+j % z:=by rw[Nat.mul_comm];exact(Nat.div_add_mod j z).symm
    have hmod:j % z<z:=Nat.mod_lt _ hz0
    have hq:j / z<n:=by rw[Nat.div_lt_iff_lt_mul hz0];exact hj
    obtain⟨yq,hyq⟩:∃ yq,ys[j / z]? = some yq:=⟨_,List.getElem?_eq_getElem (by omega)⟩
    have hlt:j % z<(f yq).length:=by rw[hz];exact hmod
    have e1:=PN hz hyq (j % z) _ (List.getElem?_eq_getElem hlt)
    rw[← hdm,← h,List.getElem?_take,if_pos hj,Array.getElem?_toList] at e1
    by_cases hin:i * z+o≤j∧j<i * z+o + [v].length
    · rw[if_pos hin]
      have hj2:j=i * z+o:=by simp at hin;omega
      subst hj2
      have hset:(ys.set i x)[i]? = some x:=by simp[hi]
      have:=PN hz hset o v (by rw[hx];simp[hz,ho])
      rw[this];simp
    · rw[if_neg hin,e1]
      by_cases hqi:j / z=i
      · have hset:(ys.set i x)[i]? = some x:=by simp[hi]
        have hyi:yq=y:=by
          rw[hqi,hy] at hyq;exact(Option.some.inj hyq).symm
        subst hyi
        have hne:o≠j % z:=by
          intro he
          apply hin
          rw[hqi,← he] at hdm
          simp;omega
        have hlt2:j % z<(f x).length:=by rw[hz];exact hmod
        have e2:=PN hz hset (j % z) _ (List.getElem?_eq_getElem hlt2)
        rw[← hqi,← hdm,hqi] at e2
        rw[e2]
        congr 1
        have:(f x)[j % z]? = (f yq)[j % z]?:=by rw[hx,List.getElem?_set_ne hne]
        rw[List.getElem?_eq_getElem hlt2,List.getElem?_eq_getElem (by rw[hz];exact hmod)] at this
        exact(Option.some.inj this).symm
      · have hset:(ys.set i x)[j / z]? = some yq:=by rw[List.getElem?_set_ne (Ne.symm hqi),hyq]
        have e2:=PN hz hset (j % z) _ (List.getElem?_eq_getElem hlt)
        rw[← hdm] at e2
        rw[e2]
  · rw[if_neg hj]
    symm
    apply List.getElem?_eq_none
    rw[Abw hz,List.length_set,hys];omega
end
def Aph(u:Us):List Value:=u.cells.toList
theorem AeH(u:Us):(Aph u).length=3:=rfl
def DW(us:List Us):List Value:=us.flatMap Aph
theorem AtX:SlT 36 40 3 32:=.mk (by kernel_rfl) (by decide) (by kernel_rfl)
theorem AqV:SlT 30 38 7 72:=.mk (by kernel_rfl) (by decide) (by kernel_rfl)
section
variable{e:We}{r:Fz}{T:List ByteArray}{a0:WA}{w w':World}{a a':WA}{l:List En}
theorem WMr.appAt{t et sz by_ ty k:Nat}(hT:SlT t et sz by_){s src:Sl}{cs news:List Value}{K:Sl→World→Prop}(h:WMr e r w a l)(hk:l[k]? = some (.row et sz s cs))(hsrc:OQ w src news)(hn:news.length=src.n * sz)(h1:∀ u∈news,MH u=true)(h63:(s.n+src.n)≤4294967296)(hby:by_≤128)
    (c:∀ s' w',s'.n=s.n+src.n→WMr e r w' a (l.set k (.row et sz s' (cs++news)))→K s' w'):rn (Builtin.append_ #[t,t] ty #[s.v,src.v]) hSl K w:=by
  have hp:=(Ad4 hk).append_left (a.en e.bw e.bl)
  have hz:=(h.1.perm hp).perm (FK _ _ _).symm
  refine hz.app hT hsrc hn h1 h63 hby fun s' w' hs' hz'=>c s' w' hs' ⟨?_,h.2⟩
  exact(hz'.perm (FK _ _ _)).perm ((WV hk _).symm.append_left _)
theorem WMr.unrowAt{et sz k:Nat}{s:Sl}{cs:List Value}(h:WMr e r w a l)(hk:l[k]? = some (.row et sz s cs)){p:Addr}(hp:s.a=some p) :
    ∃ (g:Nat) (cur:Array Value),p=⟨g,0,none⟩∧s.n≤s.c∧cur.size=s.c * sz∧cur.toList.take (s.n * sz)=cs∧WMr e r w a (l.set k (.box g (.cells cur et))):=by
  have hq:=(Ad4 hk).append_left (a.en e.bw e.bl)
  have hz:=(h.1.perm hq).perm (FK _ _ _).symm
  obtain⟨g,cur,h1,h2,h3,h4,h5⟩:=hz.unrow hp
  exact⟨g,cur,h1,h2,h3,h4,⟨(h5.perm (FK _ _ _)).perm ((WV hk _).symm.append_left _),h.2⟩⟩
theorem Uq.to(u:Uq e r T a0 w a l){l':List En}(h:WMr e r w' a l'):Uq e r T a0 w' a l':=⟨h,u.ar,u.nms,u.le,u.len⟩
theorem Aq7{w:World}{sl:Sl}{ps:List ByteArray}(h1:OQ w sl (ps.map .string))(hn:sl.n=ps.length)(hlen:ps.length≤2147483648)(t:ByteArray){K:Int→World→Prop}(c:K (match PO t ps 0 with | some j=>(j:Int) | none=>-1) w):GD sl t K w:=by
  refine HW _ _ _ _ ?_
  unfold MZ
  refine YE (fun m (x:Int) w'=>w'=w∧∃ k:Nat,x=k∧m+k=ps.length∧PO t (ps.drop k) k=PO t ps 0) ps.length (0:Int) rfl ⟨rfl,0,rfl,rfl,rfl⟩ ?_
  rintro m x w' ⟨hw,k,rfl,hm,hi⟩ again hag
  subst w'
  refine JE (fun hlt => ?_) (fun hge => ?_)
  · have hlt:k<ps.length:=by simp at hlt;omega
    rw[List.drop_eq_getElem_cons hlt] at hi
    have hie:PO t (ps[k] :: ps.drop (k+1)) k=if ps[k] = t then some k else PO t (ps.drop (k+1)) (k+1):=rfl
    rw[hie] at hi
    cases ha:sl.a with
    | none=>have:=(h1.1 ha).1;omega
    | some p=>
      refine JM rfl ⟨by omega,by omega,YS (x:=ps[k]) ?_ ?_⟩
      · have:=h1.2 p ha k (.string ps[k]) (by rw[List.getElem?_map,List.getElem?_eq_getElem hlt];rfl)
        simpa using this
      · have hb:(t.toList==(ps[k]).toList)=decide (ps[k] = t):=by
          rw[IX,IX]
          by_cases he:ps[k] = t
          · rw[he];simp
          · have:t.data.toList≠(ps[k]).data.toList:=fun h=>he (Akd h.symm)
            rw[decide_eq_false he,beq_eq_false_iff_ne];exact this
        rw[hb]
        refine JE (fun hb => ?_) (fun hb => ?_)
        · rw[if_pos (by simpa using hb)] at hi
          rw[← hi] at c
          exact Rt.mk (h:=QC .i64) (k:Int) c
        · rw[if_neg (by simpa using hb)] at hi
          rw[ZS (n:=ps.length) (by omega) (by omega) (by omega)]
          exact hag (m - 1) ((k:Int)+1) w (by omega) ⟨rfl,k+1,by omega,by omega,hi⟩
  · have hge:k=ps.length:=by simp at hge;omega
    rw[hge,List.drop_length] at hi
    rw[← hi] at c
    exact Rt.mk (h:=QC .i64) (-1:Int) c
theorem AeR{t:ByteArray}:∀ {ps:List ByteArray} {i j:Nat},PO t ps i=some j→i≤j∧j<i+ps.length
  | [],i,j,h=>by cases h
  | p :: ps,i,j,h=>by
    unfold PO at h
    split at h
    · cases h;simp
    · have:=AeR h
      simp only[List.length_cons];omega
end
end Go.Proofs.YtjiagmjfnbljjaaGreatDoor
end
section
namespace Go.Proofs.YtjiagmjfnbljjaaGreatDoor
open Go Go.MapKept
set_option maxHeartbeats 4000000
set_option linter.unusedVariables false
set_option linter.unusedSimpArgs false
def Usb(p:Wp):Prop:=∀ c∈p.scs,∀ q∈c.names,∀ k∈q.2.uses.map (·.1),1≤k∧k≤5
def AmJ(r:Fz)(sl:Sl)(us:List Us):Prop:=sl.n=us.length∧((sl.a=none∧sl.c=0∧us = [])∨∃ g cur,sl.a=some ⟨g,0,none⟩∧sl.n≤sl.c∧(g,Obj.cells cur 40)∈r∧cur.toList.take (us.length * 3)=DW us)
theorem AmJ.more{r r':Fz}{sl:Sl}{us:List Us}(h:AmJ r sl us)(hr:∀ q∈r,q∈r'):AmJ r' sl us:=by
  obtain⟨h1,h2⟩:=h
  refine⟨h1,?_⟩
  rcases h2 with h2 | ⟨g,cur,h3,h4,h5,h6⟩
  · exact .inl h2
  · exact .inr ⟨g,cur,h3,h4,hr _ h5,h6⟩
def u0(q:ByteArray×Int):Us:=⟨q.1,q.2,0⟩
def Aa7(s:Sc)(t:ByteArray):List (ByteArray×Int):=(AlE ((s.nm t).uses.map (·.1))).map fun k=>(t,k)
theorem AjC(s:Sc):XY s=(Ae9 (s.names.map (·.1))).flatMap (Aa7 s):=rfl
theorem Af2{α β:Type}{g:α→List β}{n:Nat}:∀ {l:List α},(∀ x∈l,(g x).length≤n)→(l.flatMap g).length≤n * l.length
  | [],_=>by simp
  | x :: l,h=>by
    rw[List.flatMap_cons,List.length_append,List.length_cons,Nat.mul_succ]
    have:=h x (by simp)
    have:=Af2 (l:=l) fun y hy=>h y (by simp[hy])
    omega
theorem Aro(k:Int)(a b:List (ByteArray×Int)):UI k (a++b)=UI k a+UI k b:=by unfold UI;rw[List.filter_append,List.length_append]
theorem AgZ(k:Int)(a:List (ByteArray×Int)):UI k a≤a.length:=List.length_filter_le _ _
theorem Aqq(a b:List Us):DW (a++b)=DW a++DW b:=by unfold DW;simp
theorem Al1(a:List Us):(DW a).length=a.length * 3:=Abw AeH a
theorem Aqr(a:List Us):∀ u∈DW a,MH u=true:=by
  intro u hu
  unfold DW at hu
  obtain⟨y,_,hy⟩:=List.mem_flatMap.1 hu
  simp only[Aph,XK.cells,List.mem_cons,List.not_mem_nil,or_false] at hy
  rcases hy with rfl | rfl | rfl<;>rfl
section
variable{e:We}{r:Fz}{T:List ByteArray}{a0:WA}{w w':World}{a a':WA}{l:List En}{i:Nat}{s:ScA}
theorem WMr.psAt(h:WMr e r w a l)(hs:a.scs[i]? = some s):OQ w s.ps (s.params.map .string)∧s.ps.n=s.params.length:=by
  have ho:Own w e.w0.heap.size 9 1 s.ps (s.params.map .string):=h.1.ok (e:=.row 9 1 s.ps (s.params.map .string)) (List.mem_append_left _ (List.mem_append_right _ (List.mem_flatMap.2 ⟨s,List.mem_of_getElem? hs,by simp[ScA.en,ScA.own]⟩)))
  have:=ho.len
  rw[List.length_map] at this
  exact⟨ho.cells,by omega⟩
theorem WMr.rowInt{sl:Sl}{ts:List Int}(h:WMr e r w a l)(hx : .row 3 1 sl (ts.map (.int .i64))∈l){k:Nat}(hk:k<ts.length){K:Int→World→Prop}(c:K ts[k] w) :
    nn sl.a fun a13=>0≤(k:Int)∧(k:Int)<((sl.n:Nat):Int)∧JK (a13.add ((k:Int).toNat * 1)) K w:=by
  obtain⟨h1,h2⟩:=h.rowAt hx
  rw[List.length_map] at h2
  cases ha:sl.a with
  | none=>have:=(h1.1 ha).1;omega
  | some p=>
    refine JM rfl ⟨by omega,by omega,JO (x:=ts[k]) ?_ c⟩
    have:=h1.2 p ha k (.int .i64 ts[k]) (by rw[List.getElem?_map,List.getElem?_eq_getElem hk];rfl)
    simpa using this
theorem WMr.bxGet(h:WMr e r w a l){b:Nat}{cs:Array Value}{t:TypeId}(hx : .box b (.cells cs t (0,0))∈l):w.heap[b]? = some (.cells cs t (0,0)):=h.1.heap (List.mem_append_right _ hx)
abbrev scC(s:ScA)(ul:Sl)(lo ce fr:Int):JL:=⟨s.kind,s.at_,s.around,ul,lo,ce,fr⟩
theorem Aod{ul:Sl}{b9 b1:Nat}(u:Uq e r T a0 w a (.row 40 3 ul (DW ((XY s.er).map u0)) :: .box b9 (.cells (scC s ul (if s.kind==4 then 1 else s.params.length:Nat) (UI 2 (XY s.er)) (UI 3 (XY s.er))).cells 38) :: .box b1 (.cells (JL.cells ⟨0,0,0,⟨none,0,0⟩,0,0,0⟩) 38) :: l))(hs:a.scs[i]? = some s)(hN:(XY s.er).length≤600000000)(hps:s.params.length≤2147483648)(htr:0≤s.tries∧s.tries≤2147483648){K:JL→World→Prop}
    (c:∀ r' w',(∀ q∈r,q∈r')→Uq e r' T a0 w' a l→AmJ r' ul (EN s.er).uses→K (scC s ul (EN s.er).locals (EN s.er).cells (EN s.er).frees) w') :
    ET (Rt DC K) (some ⟨s.bs,0,none⟩) ⟨b1,0,none⟩ ⟨b9,0,none⟩ w:=by
  unfold ET
  obtain⟨L,hL⟩:∃ L,XY s.er=L:=⟨_,rfl⟩
  obtain⟨o0,ho0⟩:∃ o0:Nat,(if s.kind==4 then 1 else s.params.length:Nat)=o0:=⟨_,rfl⟩
  have ho0l:o0≤2147483648:=by rw[← ho0];split<;>omega
  obtain⟨ce,hce⟩:∃ ce,UI 2 L=ce:=⟨_,rfl⟩
  obtain⟨fr,hfr⟩:∃ fr,UI 3 L=fr:=⟨_,rfl⟩
  have hce2:=AgZ 2 L
  have ht:EN s.er=⟨s.kind,s.at_,s.around,((XX s.params 0 ce o0 L).2:Int)+s.tries,ce,fr,(XX s.params 0 ce o0 L).1⟩:=by
    unfold EN
    simp only[hL,hce,hfr]
    rw[← ho0];rfl
  rw[ht] at c
  rw[hL] at u hN
  rw[ho0,hce,hfr] at u
  rw[hce] at hce2
  refine u.dw fun w u => ?_
  have hS:JD w ⟨b9,0,none⟩ (scC s ul o0 ce fr).cells.toList:=u.h.cells me1
  refine⟨fun w'=>JD w' ⟨b9,0,none⟩ (scC s ul o0 ce fr).cells.toList,hS,JV (x:=(ce:Int)) (fun w' h=>h 5 _ rfl) ?_⟩
  refine DE (x:=ul) (u.h.cells me1 3 _ rfl) ?_
  have hun:ul.n=L.length:=by
    have ho:Own w e.w0.heap.size 40 3 ul (DW (L.map u0)):=u.h.1.ok (e:=.row 40 3 ul (DW (L.map u0))) (List.mem_append_right _ me0)
    have:=ho.len
    rw[Al1,List.length_map] at this;omega
  -- the ending
  have fin:∀ {r':Fz} {w1:World} {o:Nat},(∀ q∈r,q∈r')→Uq e r' T a0 w1 a (.box b9 (.cells (scC s ul o ce fr).cells 38) :: .box b1 (.cells (JL.cells ⟨0,0,0,⟨none,0,0⟩,0,0,0⟩) 38) :: l)→AmJ r' ul (XX s.params 0 ce o0 L).1→o=(XX s.params 0 ce o0 L).2→o≤3000000000→
      dw (fun w=>
            ∃ S57:World→Prop,S57 w∧
            QG S57 ((⟨b9,0,none⟩:Addr).add 4) fun(i58:Int)=>
            nn (some (⟨s.bs,0,none⟩:Addr)) fun a59=>
            QG S57 (a59.add 5) fun(i60:Int)=>
            YX ((⟨b9,0,none⟩:Addr).add 4) (IntKind.i64.wrap (i58+i60)) (fun w=>
              SR ⟨b9,0,none⟩ (fun(x61:JL) w=>
                LU ⟨b1,0,none⟩ x61 (fun w=>
                  Acv ⟨b1,0,none⟩ (fun r62=>
                    Rt DC K (r62.v) w) w) w) w) w) w1:=by
    intro r' w1 o hr' u hus ho hol
    refine u.dw fun w u => ?_
    refine⟨fun w'=>JD w' ⟨b9,0,none⟩ (scC s ul o ce fr).cells.toList∧JD w' ⟨s.bs,0,none⟩ s.cells.toList,⟨u.h.cells me0,u.h.sc hs⟩,JV (x:=(o:Int)) (fun w' h=>h.1 4 _ rfl) (JM rfl (JV (x:=s.tries) (fun w' h=>h.2 5 _ rfl) ?_))⟩
    rw[JY (by omega) (by omega),GQ,Nat.zero_add]
    refine MB (u.h.bxGet me0) (Nat.le_of_ble_eq_true rfl) fun w2 s2 => ?_
    have h2:WMr e r' w2 a (.box b9 (.cells (scC s ul ((o:Int)+s.tries) ce fr).cells 38) :: .box b1 (.cells (JL.cells ⟨0,0,0,⟨none,0,0⟩,0,0,0⟩) 38) :: l):=u.h.set (k:=0) rfl s2
    refine AcT (h2.cells me0) ?_
    refine RA (h2.bxGet me1) (Nat.le_of_ble_eq_true rfl) fun w3 s3 => ?_
    rw[QH (by rfl)] at s3
    have h3:WMr e r' w3 a (.box b9 (.cells (scC s ul ((o:Int)+s.tries) ce fr).cells 38) :: .box b1 (.cells (scC s ul ((o:Int)+s.tries) ce fr).cells 38) :: l):=h2.set (k:=1) rfl s3
    refine Aji (h3.cells me1) (Rt.mk (h:=DC) _ ?_)
    have:=c r' w3 hr' ((u.to h3).sub ((List.sublist_cons_self _ _).trans (List.sublist_cons_self _ _))) hus
    rw[← ho] at this
    exact this
  cases hua:ul.a with
  | none=>
    have h0:L = []:=by
      have:=u.h.1.ok (e:=.row 40 3 ul (DW (L.map u0))) (List.mem_append_right _ me0)
      have ho:Own w e.w0.heap.size 40 3 ul (DW (L.map u0)):=this
      have:=(ho.cells.1 hua).1
      exact List.eq_nil_of_length_eq_zero (by omega)
    have h0c:ul.c=0:=by
      have:=u.h.1.ok (e:=.row 40 3 ul (DW (L.map u0))) (List.mem_append_right _ me0)
      have ho:Own w e.w0.heap.size 40 3 ul (DW (L.map u0)):=this
      exact(ho.cells.1 hua).2
    refine YE (fun m (x:Int×Int×Int) w'=>w'=w∧x.2.2=0) 0 ((0:Int),(ce:Int),(0:Int)) rfl ⟨rfl,rfl⟩ ?_
    rintro m ⟨x1,x2,x3⟩ w1 ⟨rfl,h3⟩ again hag
    dsimp only at h3 ⊢
    subst h3
    refine ZH (by rw[hun,h0];rfl) ?_
    refine fin (fun _ h=>h) (u.sub (List.sublist_cons_self _ _)) ⟨by rw[hun,h0];rfl,.inl ⟨hua,h0c,by rw[h0];rfl⟩⟩ (by rw[h0];rfl) (by omega)
  | some p=>
    obtain⟨g,cur,rfl,hnc,hcs,hcur,hb⟩:=u.h.unrowAt (k:=0) rfl hua
    have u1:Uq e r T a0 w a (.box g (.cells cur 40) :: .box b9 (.cells (scC s ul o0 ce fr).cells 38) :: .box b1 (.cells (JL.cells ⟨0,0,0,⟨none,0,0⟩,0,0,0⟩) 38) :: l):=u.to hb
    have hsz:L.length * 3≤ul.c * 3:=Nat.mul_le_mul_right 3 (by omega)
    refine YE (fun m (x:Int×Int×Int) w'=>∃ (c f o j:Nat) (done:List Us) (cur':Array Value),x=((c:Int),(f:Int),(j:Int))∧m+j=L.length∧done.length=j∧Uq e r T a0 w' a (.box g (.cells cur' 40) :: .box b9 (.cells (scC s ul o ce fr).cells 38) :: .box b1 (.cells (JL.cells ⟨0,0,0,⟨none,0,0⟩,0,0,0⟩) 38) :: l)∧cur'.size=ul.c * 3∧cur'.toList.take (L.length * 3)=DW (done++(L.drop j).map u0)∧c≤j∧f≤ce+j∧o≤o0+j∧done++(XX s.params c f o (L.drop j)).1=(XX s.params 0 ce o0 L).1∧(XX s.params c f o (L.drop j)).2=(XX s.params 0 ce o0 L).2) L.length ((0:Int),(ce:Int),(0:Int)) rfl
      ⟨0,ce,o0,0,[],cur,rfl,rfl,rfl,u1,hcs,by rw[← hun];simpa using hcur,Nat.le_refl _,by omega,by omega,rfl,rfl⟩ ?_
    rintro m x w1 ⟨c',f,o,j,done,cur',rfl,hm,hdl,u2,hcs',hcur',hcj,hfj,hoj,hd1,hd2⟩ again hag
    dsimp only
    refine JE (fun hlt => ?_) (fun hge => ?_)
    · have hlt:j<L.length:=by simp at hlt;omega
      have hdr:L.drop j=L[j] :: L.drop (j+1):=List.drop_eq_getElem_cons hlt
      rw[hdr] at hd1 hd2 hcur'
      obtain⟨q,hq⟩:∃ q,L[j] = q:=⟨_,rfl⟩
      rw[hq] at hd1 hd2 hcur' hdr
      have hys:(done++(q :: L.drop (j+1)).map u0).length=L.length:=by
        rw[← hdr,List.length_append,List.length_map,List.length_drop];omega
      have hyj:(done++(q :: L.drop (j+1)).map u0)[j]? = some (u0 q):=by
        rw[List.getElem?_append_right (by omega),hdl,Nat.sub_self];rfl
      have hgb:=u2.h.bxGet (b:=g) me0
      have hcl:JD w1 ⟨g,0,none⟩ (DW (done++(q :: L.drop (j+1)).map u0)):=by
        intro k v hk
        refine u2.h.cells (b:=g) me0 k v ?_
        rw[← hcur',List.getElem?_take] at hk
        split at hk
        · exact hk
        · cases hk
      have hca:∀ k v,(Aph (u0 q))[k]? = some v→w1.cell? (((⟨g,0,none⟩:Addr).add ((j:Int).toNat * 3)).add k)=some v:=by
        intro k v hk
        rw[II,Int.toNat_natCast]
        exact hcl _ _ (PN AeH hyj k v hk)
      refine DE (x:=ul) (u2.h.cells me1 3 _ rfl) (JM hua ⟨by omega,by omega,JO (x:=q.2) (hca 1 _ rfl) ?_⟩)
      have hset:∀ (v:Int),((done++(q :: L.drop (j+1)).map u0).set j ⟨q.1,q.2,v⟩)=(done ++ [⟨q.1,q.2,v⟩])++(L.drop (j+1)).map u0:=by
        intro v
        rw[List.set_append_right _ _ (by omega),hdl,Nat.sub_self,List.append_assoc];rfl
      -- a slot is written
      have st:∀ {v:Int} {cur1:Array Value} {o1:Nat} {w1:World} {v1:Int} {K:World→Prop},Uq e r T a0 w1 a (.box g (.cells cur1 40) :: .box b9 (.cells (scC s ul o1 ce fr).cells 38) :: .box b1 (.cells (JL.cells ⟨0,0,0,⟨none,0,0⟩,0,0,0⟩) 38) :: l)→cur1.size=ul.c * 3→cur1.toList.take (L.length * 3)=DW ((done ++ [⟨q.1,q.2,v⟩])++(L.drop (j+1)).map u0)→
          (∀ cur2 w2,Uq e r T a0 w2 a (.box g (.cells cur2 40) :: .box b9 (.cells (scC s ul o1 ce fr).cells 38) :: .box b1 (.cells (JL.cells ⟨0,0,0,⟨none,0,0⟩,0,0,0⟩) 38) :: l)→cur2.size=ul.c * 3→cur2.toList.take (L.length * 3)=DW ((done ++ [⟨q.1,q.2,v1⟩])++(L.drop (j+1)).map u0)→w2.cell? (((⟨g,0,none⟩:Addr).add ((j:Int).toNat * 3)).add 2)=some (.int .i64 v1)→K w2)→
          YX (((⟨g,0,none⟩:Addr).add ((j:Int).toNat * 3)).add 2) v1 K w1:=by
        intro v cur1 o1 w1 v1 K u2 hc1 hc2 k
        have hgb:=u2.h.bxGet (b:=g) me0
        have hj3:j * 3+2+1≤cur1.size:=by rw[hc1];omega
        have had:(((⟨g,0,none⟩:Addr).add ((j:Int).toNat * 3)).add 2)=⟨g,j * 3+2,none⟩:=by
          rw[II,GQ,Int.toNat_natCast,Nat.zero_add]
        rw[had]
        have hy1:((done ++ [⟨q.1,q.2,v⟩])++(L.drop (j+1)).map u0)[j]? = some (⟨q.1,q.2,v⟩:Us):=by
          rw[List.append_assoc,List.getElem?_append_right (by omega),hdl,Nat.sub_self];rfl
        have hyl:((done ++ [(⟨q.1,q.2,v⟩:Us)])++(L.drop (j+1)).map u0).length=L.length:=by
          simp only[List.length_append,List.length_map,List.length_drop,List.length_cons,List.length_nil];omega
        refine MB hgb hj3 fun w2 s2=>k _ w2 (u2.to (u2.h.set (k:=0) rfl s2)) (by rw[NZ];exact hc1) ?_ ?_
        · have:=Av7 AeH (by decide) hc2 hyl (by rw[hc1];exact hsz) (o:=2) (v:=.int .i64 v1) hy1 (x:=⟨q.1,q.2,v1⟩) (by decide) rfl
          rw[this]
          unfold DW
          congr 1
          rw[List.append_assoc,List.set_append_right _ _ (by omega),hdl,Nat.sub_self,List.append_assoc];rfl
        · have h2:=(u2.to (u2.h.set (k:=0) rfl s2)).h.bxGet (b:=g) me0
          rw[had]
          refine Aax h2 ?_
          rw[BK _ _ _ _ (by simp;omega),if_pos (by simp)]
          simp
      have st0:∀ {v1:Int} {K:World→Prop},(∀ cur2 w2,Uq e r T a0 w2 a (.box g (.cells cur2 40) :: .box b9 (.cells (scC s ul o ce fr).cells 38) :: .box b1 (.cells (JL.cells ⟨0,0,0,⟨none,0,0⟩,0,0,0⟩) 38) :: l)→cur2.size=ul.c * 3→cur2.toList.take (L.length * 3)=DW ((done ++ [⟨q.1,q.2,v1⟩])++(L.drop (j+1)).map u0)→w2.cell? (((⟨g,0,none⟩:Addr).add ((j:Int).toNat * 3)).add 2)=some (.int .i64 v1)→K w2)→
          YX (((⟨g,0,none⟩:Addr).add ((j:Int).toNat * 3)).add 2) v1 K w1:=fun {v1 K} k=>st (v:=0) u2 hcs' (by rw[hcur',← hset];rw[List.set_append_right _ _ (by omega),hdl,Nat.sub_self];rfl) k
      have e1:XX s.params c' f o (q :: L.drop (j+1))=if q.2==2 then((⟨q.1,q.2,c'⟩:Us) :: (XX s.params (c'+1) f o (L.drop (j+1))).1,(XX s.params (c'+1) f o (L.drop (j+1))).2) else
          if q.2==3 then((⟨q.1,q.2,f⟩:Us) :: (XX s.params c' (f+1) o (L.drop (j+1))).1,(XX s.params c' (f+1) o (L.drop (j+1))).2) else
          if q.2==1 then match PO q.1 s.params 0 with
            | some j'=>((⟨q.1,q.2,j'⟩:Us) :: (XX s.params c' f o (L.drop (j+1))).1,(XX s.params c' f o (L.drop (j+1))).2)
            | none=>((⟨q.1,q.2,o⟩:Us) :: (XX s.params c' f (o+1) (L.drop (j+1))).1,(XX s.params c' f (o+1) (L.drop (j+1))).2)
          else((⟨q.1,q.2,0⟩:Us) :: (XX s.params c' f o (L.drop (j+1))).1,(XX s.params c' f o (L.drop (j+1))).2):=rfl
      rw[e1] at hd1 hd2
      have hw1:IntKind.i64.wrap ((j:Int)+1)=((j+1:Nat):Int):=by rw[JY (by omega) (by omega)];omega
      have hw2:IntKind.i64.wrap ((c':Int)+1)=((c'+1:Nat):Int):=by rw[JY (by omega) (by omega)];omega
      have hw3:IntKind.i64.wrap ((f:Int)+1)=((f+1:Nat):Int):=by rw[JY (by omega) (by omega)];omega
      have app:∀ (x:Us) (r:List Us),done++x :: r=(done ++ [x])++r:=fun x r=>by simp
      rw[hw1]
      refine JE (fun h2 => ?_) (fun h2 => ?_)
      · rw[if_pos h2] at hd1 hd2
        refine st0 fun cur2 w2 u3 hc2 ht2 _ => ?_
        rw[hw2]
        exact hag (m - 1) (((c'+1:Nat):Int),(f:Int),((j+1:Nat):Int)) w2 (by omega) ⟨c'+1,f,o,j+1,_,cur2,rfl,by omega,by simp[hdl],u3,hc2,ht2,by omega,by omega,by omega,by rw[← hd1];exact(app _ _).symm,hd2⟩
      rw[if_neg (ne_true_of_eq_false h2)] at hd1 hd2
      refine JE (fun h3 => ?_) (fun h3 => ?_)
      · rw[if_pos h3] at hd1 hd2
        refine st0 fun cur2 w2 u3 hc2 ht2 _ => ?_
        rw[hw3]
        exact hag (m - 1) ((c':Int),((f+1:Nat):Int),((j+1:Nat):Int)) w2 (by omega) ⟨c',f+1,o,j+1,_,cur2,rfl,by omega,by simp[hdl],u3,hc2,ht2,by omega,by omega,by omega,by rw[← hd1];exact(app _ _).symm,hd2⟩
      rw[if_neg (ne_true_of_eq_false h3)] at hd1 hd2
      refine JE (fun h4 => ?_) (fun h4 => ?_)
      · rw[if_pos h4] at hd1 hd2
        obtain⟨hp1,hp2⟩:=u2.h.psAt hs
        refine u2.dw fun w2 u3 => ?_
        obtain⟨hp1,hp2⟩:=u3.h.psAt hs
        have hgb3:=u3.h.bxGet (b:=g) me0
        have hS:JD w2 ⟨s.bs,0,none⟩ s.cells.toList∧w2.heap[g]? = some (.cells cur' 40 (0,0)):=⟨u3.h.sc hs,hgb3⟩
        refine⟨fun w'=>JD w' ⟨s.bs,0,none⟩ s.cells.toList∧w'.heap[g]? = some (.cells cur' 40 (0,0)),hS,JM rfl (Aec (x:=s.ps) (fun w' h=>h.1 4 _ rfl) (YO (x:=q.1) (fun w' h => ?_) ?_))⟩
        · have h1:(DW (done++(q :: L.drop (j+1)).map u0))[j * 3+0]? = some (.string q.1):=PN AeH hyj 0 (.string q.1) rfl
          rw[← hcur',List.getElem?_take] at h1
          split at h1
          · rw[GQ,Nat.zero_add,Int.toNat_natCast]
            exact Aax h.2 (by simpa using h1)
          · cases h1
        · refine Aq7 hp1 hp2 hps q.1 ⟨hS,?_⟩
          have st3:∀ {v1:Int} {K:World→Prop},(∀ cur2 w2,Uq e r T a0 w2 a (.box g (.cells cur2 40) :: .box b9 (.cells (scC s ul o ce fr).cells 38) :: .box b1 (.cells (JL.cells ⟨0,0,0,⟨none,0,0⟩,0,0,0⟩) 38) :: l)→cur2.size=ul.c * 3→cur2.toList.take (L.length * 3)=DW ((done ++ [⟨q.1,q.2,v1⟩])++(L.drop (j+1)).map u0)→w2.cell? (((⟨g,0,none⟩:Addr).add ((j:Int).toNat * 3)).add 2)=some (.int .i64 v1)→K w2)→
              YX (((⟨g,0,none⟩:Addr).add ((j:Int).toNat * 3)).add 2) v1 K w2:=fun {v1 K} k=>st (v:=0) u3 hcs' (by rw[hcur',← hset];rw[List.set_append_right _ _ (by omega),hdl,Nat.sub_self];rfl) k
          refine st3 fun cur2 w3 u4 hc2 ht2 YV => ?_
          refine JO YV ?_
          cases hix:PO q.1 s.params 0 with
          | some j'=>
            rw[hix] at hd1 hd2 ht2
            dsimp only at hd1 hd2 ht2 ⊢
            refine ZH (by simp) ?_
            exact hag (m - 1) ((c':Int),(f:Int),((j+1:Nat):Int)) w3 (by omega) ⟨c',f,o,j+1,_,cur2,rfl,by omega,by simp[hdl],u4,hc2,ht2,by omega,by omega,by omega,by rw[← hd1];exact(app _ _).symm,hd2⟩
          | none=>
            rw[hix] at hd1 hd2 ht2
            dsimp only at hd1 hd2 ht2 ⊢
            refine VF rfl (JO (x:=(o:Int)) (u4.h.cells me1 4 _ rfl) ?_)
            refine st u4 hc2 ht2 fun cur3 w4 u5 hc3 ht3 _ => ?_
            refine JO (x:=(o:Int)) (u5.h.cells me1 4 _ rfl) ?_
            have hwo:IntKind.i64.wrap ((o:Int)+1)=((o+1:Nat):Int):=by rw[JY (by omega) (by omega)];omega
            rw[hwo,GQ,Nat.zero_add]
            refine MB (u5.h.bxGet me1) (Nat.le_of_ble_eq_true rfl) fun w5 s5 => ?_
            have h5:WMr e r w5 a (.box g (.cells cur3 40) :: .box b9 (.cells (scC s ul ((o+1:Nat):Int) ce fr).cells 38) :: .box b1 (.cells (JL.cells ⟨0,0,0,⟨none,0,0⟩,0,0,0⟩) 38) :: l):=u5.h.set (k:=1) rfl s5
            exact hag (m - 1) ((c':Int),(f:Int),((j+1:Nat):Int)) w5 (by omega) ⟨c',f,o+1,j+1,_,cur3,rfl,by omega,by simp[hdl],u5.to h5,hc3,ht3,by omega,by omega,by omega,by rw[← hd1];exact(app _ _).symm,hd2⟩
      · rw[if_neg (ne_true_of_eq_false h4)] at hd1 hd2
        refine hag (m - 1) ((c':Int),(f:Int),((j+1:Nat):Int)) w1 (by omega) ⟨c',f,o,j+1,done ++ [u0 q],cur',rfl,by omega,by simp[hdl],u2,hcs',?_,by omega,by omega,by omega,?_,hd2⟩
        · rw[hcur']
          simp
        · rw[← hd1];exact(app _ _).symm
    · have hge:j=L.length:=by simp at hge;omega
      subst hge
      rw[List.drop_length] at hd1 hd2 hcur'
      have hd1:done=(XX s.params 0 ce o0 L).1:=by rw[← hd1];simp[XX]
      have hd2:o=(XX s.params 0 ce o0 L).2:=by rw[← hd2];rfl
      have h3:=u2.h.freeze
      refine fin (r':=(g,.cells cur' 40) :: r) (fun q hq=>List.mem_cons_of_mem _ hq) ⟨h3,u2.ar,u2.nms,u2.le,u2.len⟩ ⟨by rw[← hd1,hun,hdl],.inr ⟨g,cur',hua,hnc,List.mem_cons_self,?_⟩⟩ hd2 (by omega)
      rw[← hd1,hdl,hcur']
      simp
end
end Go.Proofs.YtjiagmjfnbljjaaGreatDoor
end
section
namespace Go.Proofs.YtjiagmjfnbljjaaGreatDoor
open Go Go.MapKept
set_option maxHeartbeats 4000000
set_option linter.unusedVariables false
set_option linter.unusedSimpArgs false
section
variable{e:We}{r:Fz}{T:List ByteArray}{a0:WA}{w w':World}{a a':WA}{l:List En}{i:Nat}{s:ScA}
theorem WMr.bxCells(h:WMr e r w a l){b:Nat}{x:JL}(hx : .box b (.cells x.cells 38)∈l):JD w ⟨b,0,none⟩ x.cells.toList:=h.cells hx
theorem Aor(hU:Usb a.er)(u:Uq e r T a0 w a l)(hs:a.scs[i]? = some s){t:ByteArray}{n:NmA}(hg:ZJ s.names t=some n):(∀ q∈n.n.uses,0≤q.1∧q.1≤2147483648)∧n.n.uses.length≤5∧Aa7 s.er t=(AlE (n.n.uses.map (·.1))).map fun k=>(t,k):=by
  have hok:=(u.h.usAt hs hg).2
  have hm:(t,n.n)∈s.er.names:=by
    have:=CF hg
    exact List.mem_map.2 ⟨(t,n),this,rfl⟩
  have hk:=hU s.er (List.mem_of_getElem? (WA.er_at hs)) (t,n.n) hm
  refine⟨fun q hq => ?_,?_,?_⟩
  · have:=hk q.1 (List.mem_map.2 ⟨q,hq,rfl⟩)
    omega
  · have h1:=AeT (T:=[1,2,3,4,5]) hok.m.nodup fun k hk'=>by
      have:=hk k hk'
      have:k=1∨k=2∨k=3∨k=4∨k=5:=by omega
      simpa using this
    simpa using h1
  · unfold Aa7 Sc.nm
    rw[s.er_get,hg];rfl
abbrev zSc:JL:=⟨0,0,0,⟨none,0,0⟩,0,0,0⟩
theorem At2(hT:Few T)(u:Uq e r T a0 w a l)(hU:Usb a.er)(hs:a.scs[i]? = some s)(hps:s.params.length≤2147483648)(htr:0≤s.tries∧s.tries≤2147483648){K:JL→World→Prop}
    (c:∀ r' w' ul,(∀ q∈r,q∈r')→Uq e r' T a0 w' a l→AmJ r' ul (EN s.er).uses→K (scC s ul (EN s.er).locals (EN s.er).cells (EN s.er).frees) w'):BB (some ⟨s.bs,0,none⟩) K w:=by
  refine Adj _ _ _ ?_
  unfold TV
  obtain⟨f1,f2,f3⟩:=u.few hT hs
  refine u.h.bx fun b1 w h => ?_
  replace u:=u.to h
  refine u.dw fun w u => ?_
  have hsc:∀ {w:World} {r:Fz} {l:List En},WMr e r w a l→JD w ⟨s.bs,0,none⟩ s.cells.toList:=fun h=>h.sc hs
  refine⟨fun w'=>JD w' ⟨s.bs,0,none⟩ s.cells.toList,hsc u.h,JM rfl (JV (x:=s.kind) (fun w' h=>by simpa [JP] using h 0 _ rfl) (JM rfl (JV (x:=s.at_) (fun w' h=>h 1 _ rfl) (JM rfl (JV (x:=s.around) (fun w' h=>h 2 _ rfl) ?_)))))⟩
  refine u.h.bx fun b9 w h=>⟨hsc h,?_⟩
  replace u:=u.to h
  refine RA (u.h.bxGet me0) (Nat.le_of_ble_eq_true rfl) fun w s1 => ?_
  rw[QH (by rfl)] at s1
  replace u:Uq e r T a0 w a (.box b9 (.cells (scC s ⟨none,0,0⟩ 0 0 0).cells 38) :: .box b1 (.cells (JL.cells zSc) 38) :: l):=u.to (u.h.set (k:=0) rfl s1)
  refine JM rfl (u.h.ldM hs ?_)
  refine u.sorted hT hs fun sl w hn u hl3 => ?_
  obtain⟨ts,hts⟩:∃ ts,XV a.er i=ts:=⟨_,rfl⟩
  have hkeys:ts=Ae9 (s.er.names.map (·.1)):=by rw[← hts];unfold XV;rw[WA.er_at hs]
  have hlen:ts.length≤100000000:=by
    have hnm:=u.nms s.er (List.mem_of_getElem? (WA.er_at hs))
    have:=AeT hnm.1 hnm.2
    rw[hkeys,(EC _).length_eq]
    have:=hT.len
    omega
  rw[hts] at hn u hl3
  -- an own row of no uses
  have hz:WMr e r w a (.row 40 3 ⟨none,0,0⟩ [] :: .row 9 1 sl (ts.map .string) :: .box b9 (.cells (scC s ⟨none,0,0⟩ 0 0 0).cells 38) :: .box b1 (.cells (JL.cells zSc) 38) :: l):=u.h.row_new (.refl w) (Own.nil _ _ _ _)
  replace u:=u.to hz
  clear hz
  have hkt:∀ t∈ts,∃ n,ZJ s.names t=some n:=by
    intro t ht
    rw[hkeys] at ht
    have:=(EC _).mem_iff.1 ht
    rw[← f3] at this
    exact Akl this
  have hg5:∀ t∈ts,(Aa7 s.er t).length≤5:=by
    intro t ht
    obtain⟨n,hg⟩:=hkt t ht
    obtain⟨q1,q2,q3⟩:=Aor hU u hs hg
    rw[q3,List.length_map,(KO _).length_eq,List.length_map];exact q2
  have hLs:XY s.er=ts.flatMap (Aa7 s.er):=by rw[AjC,hkeys]
  have hLb:∀ k,((ts.take k).flatMap (Aa7 s.er)).length≤5 * 100000000:=by
    intro k
    have:=Af2 (l:=ts.take k) (g:=Aa7 s.er) (n:=5) fun x hx=>hg5 x (List.mem_of_mem_take hx)
    have h2:(ts.take k).length≤ts.length:=by rw[List.length_take];omega
    omega
  refine YE (fun m (x:Int) w'=>∃ (k:Nat) (ul:Sl),x=k∧m+k=ts.length∧Uq e r T a0 w' a (.row 40 3 ul (DW (((ts.take k).flatMap (Aa7 s.er)).map u0)) :: .row 9 1 sl (ts.map .string) :: .box b9 (.cells (scC s ul 0 (UI 2 ((ts.take k).flatMap (Aa7 s.er))) (UI 3 ((ts.take k).flatMap (Aa7 s.er)))).cells 38) :: .box b1 (.cells (JL.cells zSc) 38) :: l)) ts.length (0:Int) rfl ⟨0,⟨none,0,0⟩,rfl,rfl,u⟩ ?_
  clear u
  rintro m x w1 ⟨k,ul,rfl,hm,u⟩ again hag
  refine JE (fun hlt => ?_) (fun hge => ?_)
  · have hlt:k<ts.length:=by simp at hlt;omega
    refine u.h.rowStr me1 hlt ?_
    obtain⟨t,ht⟩:∃ t,ts[k] = t:=⟨_,rfl⟩
    have htm:t∈ts:=by rw[← ht];exact List.getElem_mem hlt
    have htk:(ts.take (k+1)).flatMap (Aa7 s.er)=(ts.take k).flatMap (Aa7 s.er)++Aa7 s.er t:=by
      rw[List.take_succ_eq_append_getElem hlt,List.flatMap_append,ht];simp
    rw[ht]
    obtain⟨n,hg⟩:=hkt t htm
    obtain⟨q1,q2,q3⟩:=Aor hU u hs hg
    obtain⟨hub,huo⟩:=u.h.usAt hs hg
    refine JM rfl (u.h.ldM hs (u.h.lkN hs hg (JM rfl (CH (x:=some n.un) (u.h.nmAt hs hg 5 _ rfl) ?_))))
    refine Aoe hub huo.m q1 (by omega) fun sl2 w2 hn2 ho2 he2 => ?_
    have hLk:=hLb k
    obtain⟨zs,hzs⟩:∃ zs,AlE (n.n.uses.map (·.1))=zs:=⟨_,rfl⟩
    have hzl:zs.length=n.n.uses.length:=by rw[← hzs,(KO _).length_eq,List.length_map]
    rw[hzs] at q3 ho2
    rw[q3] at htk
    replace u:=u.row he2 ho2
    obtain⟨Lk,hLke⟩:∃ Lk,(ts.take k).flatMap (Aa7 s.er)=Lk:=⟨_,rfl⟩
    rw[hLke] at u htk hLk
    refine YE (fun m' (x:Int) w'=>∃ (j:Nat) (ul':Sl),x=j∧m'+j=zs.length∧Uq e r T a0 w' a (.row 3 1 sl2 (zs.map (.int .i64)) :: .row 40 3 ul' (DW ((Lk++(zs.take j).map fun k=>(t,k)).map u0)) :: .row 9 1 sl (ts.map .string) :: .box b9 (.cells (scC s ul' 0 (UI 2 (Lk++(zs.take j).map fun k=>(t,k))) (UI 3 (Lk++(zs.take j).map fun k=>(t,k)))).cells 38) :: .box b1 (.cells (JL.cells zSc) 38) :: l)) zs.length (0:Int) rfl ⟨0,ul,rfl,rfl,by simpa using u⟩ ?_
    clear u
    rintro m' x w3 ⟨j,ul',rfl,hm',u⟩ again2 hag2
    refine JE (fun hlt2 => ?_) (fun hge2 => ?_)
    · have hlt2:j<zs.length:=by simp at hlt2;omega
      refine u.h.rowInt me0 hlt2 ?_
      obtain⟨z,hz⟩:∃ z,zs[j] = z:=⟨_,rfl⟩
      have htj:Lk++(zs.take (j+1)).map (fun k=>(t,k))=(Lk++(zs.take j).map fun k=>(t,k)) ++ [(t,z)]:=by
        rw[List.take_succ_eq_append_getElem hlt2,List.map_append,hz,List.append_assoc];rfl
      rw[hz]
      obtain⟨P,hP⟩:∃ P,Lk++(zs.take j).map (fun k=>(t,k))=P:=⟨_,rfl⟩
      have hPl:P.length≤600000000:=by
        rw[← hP,List.length_append,List.length_map,List.length_take];omega
      rw[hP] at htj u
      have hc2:=AgZ 2 P
      have hc3:=AgZ 3 P
      refine DE (x:=ul') (u.h.bxCells (b:=b9) (List.mem_cons_of_mem _ me2) 3 _ rfl) ?_
      have hun:ul'.n=P.length:=by
        have ho:Own w3 e.w0.heap.size 40 3 ul' (DW (P.map u0)):=u.h.1.ok (e:=.row 40 3 ul' (DW (P.map u0))) (List.mem_append_right _ me1)
        have:=ho.len
        rw[Al1,List.length_map] at this;omega
      refine u.h.bx fun b30 w4 h4 => ?_
      refine h4.appAt (k:=2) AtX (src:=⟨some ⟨b30,0,none⟩,1,1⟩) (news:=Aph ⟨t,z,0⟩) rfl ⟨nofun,fun p hp => ?_⟩ rfl (fun v hv=>Aqr [⟨t,z,0⟩] v (by simpa [DW] using hv)) (by simp only;omega) (by decide) fun ul2 w5 hul2 h5 => ?_
      · simp only[Option.some.injEq] at hp
        subst hp
        exact h4.cells (b:=b30) me0
      · replace h5:WMr e r w5 a (.row 3 1 sl2 (zs.map (.int .i64)) :: .row 40 3 ul2 (DW (P.map u0)++Aph ⟨t,z,0⟩) :: .row 9 1 sl (ts.map .string) :: .box b9 (.cells (scC s ul' 0 (UI 2 P) (UI 3 P)).cells 38) :: .box b1 (.cells (JL.cells zSc) 38) :: l):=h5.sub (List.sublist_cons_self _ _)
        have hfl:DW (P.map u0)++Aph ⟨t,z,0⟩=DW ((P ++ [(t,z)]).map u0):=by
          rw[List.map_append,Aqq];simp[DW,u0]
        rw[hfl] at h5
        rw[GQ,Nat.zero_add]
        refine Ak6 (h5.bxGet (b:=b9) (List.mem_cons_of_mem _ me2)) (Nat.le_of_ble_eq_true rfl) fun w6 s6 => ?_
        have h6:WMr e r w6 a (.row 3 1 sl2 (zs.map (.int .i64)) :: .row 40 3 ul2 (DW ((P ++ [(t,z)]).map u0)) :: .row 9 1 sl (ts.map .string) :: .box b9 (.cells (scC s ul2 0 (UI 2 P) (UI 3 P)).cells 38) :: .box b1 (.cells (JL.cells zSc) 38) :: l):=h5.set (k:=3) rfl s6
        have hw1:IntKind.i64.wrap ((j:Int)+1)=((j+1:Nat):Int):=by rw[JY (by omega) (by omega)];omega
        rw[hw1]
        have c1:∀ q:Int,UI q (P ++ [(t,z)])=UI q P+if z==q then 1 else 0:=by
          intro q
          rw[Aro]
          congr 1
          unfold UI
          simp only[List.filter_cons,List.filter_nil]
          split<;>rfl
        have e2:=c1 2
        have e3:=c1 3
        refine JE (fun hb => ?_) (fun hb => ?_)
        · rw[if_pos hb] at e2
          have hz2:z=2:=by simpa using hb
          rw[if_neg (by rw[hz2];decide)] at e3
          refine JO (x:=(UI 2 P:Int)) (h6.bxCells (b:=b9) (List.mem_cons_of_mem _ me2) 5 _ rfl) ?_
          have hw:IntKind.i64.wrap ((UI 2 P:Int)+1)=((UI 2 P+1:Nat):Int):=by rw[JY (by omega) (by omega)];omega
          rw[hw]
          refine MB (h6.bxGet (b:=b9) (List.mem_cons_of_mem _ me2)) (Nat.le_of_ble_eq_true rfl) fun w7 s7 => ?_
          have h7:=h6.set (k:=3) rfl s7
          refine hag2 (m' - 1) ((j+1:Nat):Int) w7 (by omega) ⟨j+1,ul2,rfl,by omega,u.to ?_⟩
          rw[htj,e2,e3]
          exact h7
        · rw[if_neg (ne_true_of_eq_false hb)] at e2
          refine JE (fun hb3 => ?_) (fun hb3 => ?_)
          · rw[if_pos hb3] at e3
            refine JO (x:=(UI 3 P:Int)) (h6.bxCells (b:=b9) (List.mem_cons_of_mem _ me2) 6 _ rfl) ?_
            have hw:IntKind.i64.wrap ((UI 3 P:Int)+1)=((UI 3 P+1:Nat):Int):=by rw[JY (by omega) (by omega)];omega
            rw[hw]
            refine MB (h6.bxGet (b:=b9) (List.mem_cons_of_mem _ me2)) (Nat.le_of_ble_eq_true rfl) fun w7 s7 => ?_
            have h7:=h6.set (k:=3) rfl s7
            refine hag2 (m' - 1) ((j+1:Nat):Int) w7 (by omega) ⟨j+1,ul2,rfl,by omega,u.to ?_⟩
            rw[htj,e2,e3]
            exact h7
          · rw[if_neg (ne_true_of_eq_false hb3)] at e3
            refine hag2 (m' - 1) ((j+1:Nat):Int) w6 (by omega) ⟨j+1,ul2,rfl,by omega,u.to ?_⟩
            rw[htj,e2,e3]
            exact h6
    · have hge2:j=zs.length:=by simp at hge2;omega
      rw[hge2,List.take_length,← htk] at u
      have hw1:IntKind.i64.wrap ((k:Int)+1)=((k+1:Nat):Int):=by rw[JY (by omega) (by omega)];omega
      rw[hw1]
      exact hag (m - 1) ((k+1:Nat):Int) w3 (by omega) ⟨k+1,ul',rfl,by omega,u.sub (List.sublist_cons_self _ _)⟩
  · have hge:k=ts.length:=by simp at hge;omega
    rw[hge,List.take_length,← hLs] at u
    have hN:(XY s.er).length≤600000000:=by have:=hLb ts.length;rw[List.take_length,← hLs] at this;omega
    refine JM rfl (AfH (x:=s.ps) (u.h.sc hs 4 _ rfl) ?_)
    have hpn:=(u.h.psAt hs).2
    replace u:Uq e r T a0 w1 a (.row 40 3 ul (DW ((XY s.er).map u0)) :: .box b9 (.cells (scC s ul 0 (UI 2 (XY s.er)) (UI 3 (XY s.er))).cells 38) :: .box b1 (.cells (JL.cells zSc) 38) :: l):=u.sub ((List.sublist_cons_self _ _).cons_cons _)
    rw[GQ,Nat.zero_add]
    refine MB (u.h.bxGet (b:=b9) me1) (Nat.le_of_ble_eq_true rfl) fun w2 s2 => ?_
    have h2:WMr e r w2 a (.row 40 3 ul (DW ((XY s.er).map u0)) :: .box b9 (.cells (scC s ul (s.ps.n:Int) (UI 2 (XY s.er)) (UI 3 (XY s.er))).cells 38) :: .box b1 (.cells (JL.cells zSc) 38) :: l):=u.h.set (k:=1) rfl s2
    refine JM rfl (JO (x:=s.kind) (by simpa [JP] using h2.sc hs 0 _ rfl) (JE (fun hb => ?_) (fun hb => ?_)))
    · refine MB (h2.bxGet (b:=b9) me1) (Nat.le_of_ble_eq_true rfl) fun w3 s3 => ?_
      have h3:WMr e r w3 a (.row 40 3 ul (DW ((XY s.er).map u0)) :: .box b9 (.cells (scC s ul ((1:Nat):Int) (UI 2 (XY s.er)) (UI 3 (XY s.er))).cells 38) :: .box b1 (.cells (JL.cells zSc) 38) :: l):=h2.set (k:=1) rfl s3
      refine Aod (u.to ?_) hs hN hps htr fun r' w' hr u' hus=>c r' w' ul hr u' hus
      rw[if_pos hb];exact h3
    · refine Aod (u.to ?_) hs hN hps htr fun r' w' hr u' hus=>c r' w' ul hr u' hus
      rw[if_neg (ne_true_of_eq_false hb),← hpn];exact h2
end
end Go.Proofs.YtjiagmjfnbljjaaGreatDoor
end
section
namespace Go.Proofs.YtjiagmjfnbljjaaGreatDoor
open Go
set_option maxHeartbeats 4000000
set_option linter.unusedVariables false
def UE(p:Wp):Prop:=∀ c∈p.scs,∀ q∈c.names,q.2.uses = []
theorem Ap1{c:Sc}(h:∀ q∈c.names,q.2.uses = [])(t:ByteArray):∀ q∈(c.of t).names,q.2.uses = []:=by
  unfold Sc.of
  split
  · exact h
  · rename_i hg
    have e:CU c.names t nm0=c.names ++ [(t,nm0)]:=AbG fun p hp he=>by
      have:=TA hg
      exact this (he▸List.mem_map.2 ⟨p,hp,rfl⟩)
    intro q hq
    have hq:q∈CU c.names t nm0:=hq
    rw[e] at hq
    rcases List.mem_append.1 hq with hq | hq
    · exact h q hq
    · rw[List.mem_singleton] at hq;subst hq;rfl
theorem Anh{c:Sc}(h:∀ q∈c.names,q.2.uses = [])(t:ByteArray){f:Nm→Nm}(hf:∀ n,(f n).uses=n.uses):∀ q∈(c.upd t f).names,q.2.uses = []:=by
  intro q hq
  obtain⟨q',hq',rfl⟩:=List.mem_map.1 (show q∈c.names.map _ from hq)
  split
  · show(f q'.2).uses = []
    rw[hf];exact h q' hq'
  · exact h q' hq'
theorem AsE{b:Bool}:Inv b (fun _=>True) UE:=
  AoP (fun k a s _=>by simp) (fun c n b _ h=>Anh (Ap1 h _) _ fun _=>rfl) (fun c kind k _ _ h=>Anh (Ap1 h _) _ fun _=>rfl)
    (fun c k _ _ h=>by
      have h1:∀ q∈(c.occ k.text k.at_ true).names,q.2.uses = []:=Anh (Ap1 h _) _ fun _=>rfl
      have h2:∀ q∈(((c.occ k.text k.at_ true).of k.text).upd k.text fun n=>{ n with param:=true }).names,q.2.uses = []:=Anh (Ap1 h1 _) _ fun _=>rfl
      exact h2) fun c h=>h
def AlM(p:Wp):Prop:=∀ i t,(p.nmOf i t).by_=14→∃ q∈p.lat,q.s=i∧q.text=t∧q.kind=14
theorem Ajr{p:Wp}(h:AlM p)(i:Nat){f:Sc→Sc}(hf:∀ (c:Sc) t,((f c).nm t).by_=(c.nm t).by_):AlM (p.mod i f):=by
  intro j t hb
  rw[FP] at hb
  split at hb
  · cases hs:p.scs[j]? with
    | none=>rw[hs] at hb;dsimp only at hb;cases hb
    | some c=>
      rw[hs] at hb
      dsimp only at hb
      rw[hf] at hb
      exact h j t (by unfold Wp.nmOf;rw[hs];exact hb)
  · exact h j t hb
theorem Amf(c:Sc)(t u:ByteArray){f:Nm→Nm}(hf:∀ n,(f n).by_=n.by_):((c.upd t f).nm u).by_=(c.nm u).by_:=by
  rw[AeG]
  split
  · unfold Sc.nm
    cases ZJ c.names u with
    | none=>rfl
    | some n=>exact hf n
  · rfl
theorem Ame(c:Sc)(t u:ByteArray)(a:Int)(b:Bool):((c.occ t a b).nm u).by_=(c.nm u).by_:=by
  unfold Sc.occ
  rw[Amf _ _ _ (f:=Nm.occ a b) (fun _=>rfl),AkI]
theorem AkG(p:Wp)(c a:Int)(b:Bool)(i:Nat)(t:ByteArray):(p.fault c a b).nmOf i t=p.nmOf i t:=by
  unfold Wp.nmOf;rw[EA]
theorem AeK(p:Wp)(c a:Int)(b:Bool):(p.fault c a b).lat=p.lat:=by unfold Wp.fault;split<;>rfl
theorem ApC{b:Bool}:Inv b (fun _=>True) AlM where
  occ:=fun p i n b _ _ h=>Ajr h i fun c t=>Ame c _ _ _ _
  fault:=fun p c n b _ h i t hb=>by rw[AkG] at hb;rw[AeK];exact h i t hb
  opn:=fun p k n s _ _ _ h i t hb=>by
    refine h i t ?_
    have e:(p.open_ k n.at_ s).scs=p.scs ++ [⟨k,n.at_,s,[],[],0⟩]:=rfl
    unfold Wp.nmOf at hb ⊢
    rw[e] at hb
    by_cases hi:i<p.scs.length
    · rw[List.getElem?_append_left hi] at hb;exact hb
    · rw[List.getElem?_append_right (by omega)] at hb
      cases hz:i - p.scs.length with
      | zero=>rw[hz] at hb;simp[Sc.nm,ZJ,nm0] at hb
      | succ z=>rw[hz] at hb;simp[nm0] at hb
  decl:=fun p kind i k _ hk hi h j t hb=>by
    unfold PK at hb ⊢
    show ∃ q∈_ ++ [_],_
    have e:∀ (q:Wp) (a:La) (j:Nat) (t:ByteArray),(q.later a).nmOf j t=q.nmOf j t:=fun _ _ _ _=>rfl
    rw[e,FP] at hb
    by_cases hij:i=j
    · subst hij
      rw[if_pos rfl,EA,Aa1,if_pos rfl] at hb
      cases hs:p.scs[i]? with
      | none=>rw[hs] at hb;simp[nm0] at hb
      | some c=>
        rw[hs] at hb
        simp only[Option.map_some] at hb
        rw[AeG] at hb
        by_cases ht:t=k.text
        · subst ht
          rw[if_pos rfl,AmZ,if_pos rfl] at hb
          dsimp only at hb
          exact⟨_,List.mem_append_right _ (List.mem_singleton.2 rfl),rfl,rfl,hb⟩
        · rw[if_neg ht,AkI] at hb
          obtain⟨q,hq,h1⟩:=h i t (by unfold Wp.nmOf;rw[hs];exact hb)
          refine⟨q,List.mem_append_left _ ?_,h1⟩
          show q∈((p.mod i (·.of k.text)).fault _ _ _).lat
          rw[AeK];exact hq
    · rw[if_neg hij,AkG,FP,if_neg hij] at hb
      obtain⟨q,hq,h1⟩:=h j t hb
      refine⟨q,List.mem_append_left _ ?_,h1⟩
      show q∈((p.mod i (·.of k.text)).fault _ _ _).lat
      rw[AeK];exact hq
  par:=fun p i k _ _ _ h=>by
    unfold NN
    refine Ajr (Ajr h i fun c t=>Ame c _ _ _ _) i fun c t => ?_
    have:((c.of k.text).upd k.text fun n=>{ n with param:=true }).nm t=({ (c.of k.text).upd k.text (fun n=>{ n with param:=true }) with params:=c.params ++ [k.text] }:Sc).nm t:=rfl
    rw[← this,Amf _ _ _ (f:=fun n=>{ n with param:=true }) (fun _=>rfl),AkI]
  tri:=fun p i _ h=>Ajr h i fun c t=>rfl
theorem Af1{p:Wp}{c a:Int}{b:Bool}(hc:c≠0)(h:(p.fault c a b).code=0):p.code=0∧b=false∧p.fault c a b=p:=by
  unfold Wp.fault at h ⊢
  split at h
  · exact absurd h hc
  · rename_i hn
    rw[if_neg hn]
    refine⟨h,?_,rfl⟩
    cases b with
    | false=>rfl
    | true=>rw[h] at hn;simp at hn
theorem Arc{q:La}{p:Wp}(h:(Adq q p).code=0):p.code=0∧Adq q p=p∧(q.kind=14→p.kindOf q.s=2∧0≤VZ p q.s q.text):=by
  unfold Adq at h ⊢
  dsimp only at h ⊢
  by_cases hk:q.kind==14
  · rw[if_pos hk] at h ⊢
    obtain⟨h1,h2,h3⟩:=Af1 (by decide) h
    obtain⟨h4,h5,h6⟩:=Af1 (by decide) h1
    refine⟨h4,by rw[h3,h6],fun _ => ?_⟩
    rw[Bool.or_eq_false_iff] at h2
    refine⟨by simpa using h2.1,by simpa using h2.2⟩
  · rw[if_neg hk] at h ⊢
    obtain⟨h4,h5,h6⟩:=Af1 (by decide) h
    exact⟨h4,h6,fun h=>absurd (by rw[h];rfl) hk⟩
theorem AhS:∀ (l:List La) (p:Wp),(l.foldl (fun p q=>Adq q p) p).code=0→l.foldl (fun p q=>Adq q p) p=p∧∀ q∈l,q.kind=14→p.kindOf q.s=2∧0≤VZ p q.s q.text
  | [],p,_=>⟨rfl,by simp⟩
  | q :: l,p,h=>by
    rw[List.foldl_cons] at h ⊢
    obtain⟨h1,h2⟩:=AhS l _ h
    rw[h1] at h
    obtain⟨h3,h4,h5⟩:=Arc h
    rw[h4] at h1 h2 ⊢
    exact⟨h1,fun q' hq=>by
      rcases List.mem_cons.1 hq with rfl | hq
      · exact h5
      · exact h2 q' hq⟩
def Ano(p q:Wp):Prop:=Sm p q∧∀ i t k,GK q i t k=true→k=AbN p i t
theorem AqG{p q:Wp}(h:Ano p q)(i:Nat)(t:ByteArray):Ano p (AlJ i q t):=by
  refine⟨h.1.trans (ApW i q t),fun j u k hu => ?_⟩
  unfold GK AlJ at hu
  rw[FP] at hu
  by_cases hij:i=j
  · subst hij
    rw[if_pos rfl] at hu
    cases hs:q.scs[i]? with
    | none=>rw[hs] at hu;cases hu
    | some c=>
      rw[hs] at hu
      dsimp only at hu
      rw[AeG] at hu
      have hq:∀ {n},ZJ c.names u=some n→q.nmOf i u=n:=fun hg=>by unfold Wp.nmOf Sc.nm;rw[hs];dsimp only;rw[hg];rfl
      by_cases ht:u=t
      · subst ht
        rw[if_pos rfl] at hu
        cases hg:ZJ c.names u with
        | none=>rw[hg] at hu;cases hu
        | some n=>
          rw[hg] at hu
          dsimp only at hu
          rw[AcA] at hu
          split at hu
          · rename_i hk
            rw[hk,h.1.what]
          · exact h.2 i u k (by unfold GK;rw[hq hg];exact hu)
      · rw[if_neg ht] at hu
        exact h.2 i u k (by unfold GK Wp.nmOf;rw[hs];exact hu)
  · rw[if_neg hij] at hu
    exact h.2 j u k hu
theorem MU{α:Type}{f:Wp→α→Wp}{P:Wp→Prop}(hf:∀ p x,P p→P (f p x)):∀ (l:List α) (p:Wp),P p→P (l.foldl f p)
  | [],p,h=>h
  | x :: l,p,h=>by rw[List.foldl_cons];exact MU hf l _ (hf p x h)
theorem Agg{p:Wp}(h:UE p):Ano p (BV p):=by
  unfold BV
  refine MU (P:=Ano p) (fun q i hq=>MU (P:=Ano p) (fun q t hq=>AqG hq i t) _ _ hq) _ _ ⟨.refl p,fun i t k hu => ?_⟩
  unfold GK Wp.nmOf at hu
  cases hs:p.scs[i]? with
  | none=>rw[hs] at hu;cases hu
  | some c=>
    rw[hs] at hu
    dsimp only at hu
    unfold Sc.nm at hu
    cases hg:ZJ c.names t with
    | none=>rw[hg] at hu;cases hu
    | some n=>
      rw[hg] at hu
      have:=h c (List.mem_of_getElem? hs) (t,n) (CF hg)
      simp only[Option.getD_some] at hu
      rw[show n.uses = [] from this] at hu
      cases hu
theorem Akk{p:Wp}(hu:UE p)(hl:AlM p)(hc:∀ q∈p.lat,q.kind=14→p.kindOf q.s=2∧0≤VZ p q.s q.text):DZ (BV p):=by
  obtain⟨h1,h2⟩:=Agg hu
  intro i t h
  rw[h1.home]
  have hw:=h2 i t 3 h
  unfold AbN at hw
  split at hw
  · cases hw
  · split at hw
    · rename_i hb
      obtain⟨q,hq,rfl,rfl,hk⟩:=hl i t (by simpa using hb)
      exact(hc q hq hk).2
    · split at hw
      · cases hw
      · split at hw
        · cases hw
        · split at hw
          · rename_i hh
            simpa using hh
          · cases hw
def UsC(c:Sc):Prop:=∀ q∈c.names,∀ k∈q.2.uses.map (·.1),1≤k∧k≤5
theorem Ani{p:Wp}(h:Usb p)(i:Nat)(t:ByteArray){f:Nm→Nm}(hf:∀ n:Nm,(∀ k∈n.uses.map (·.1),1≤k∧k≤5)→∀ k∈(f n).uses.map (·.1),1≤k∧k≤5):Usb (p.mod i fun s=>s.upd t f):=
  LP (C:=UsC) (p:=p) (i:=i) (f:=fun s=>s.upd t f) (fun c hc q hq=>by
    obtain⟨q',hq',rfl⟩:=List.mem_map.1 (show q∈c.names.map _ from hq)
    split
    · exact hf q'.2 (hc q' hq')
    · exact hc q' hq') h
theorem AkN{n:Nm}{j:Int}(hj:1≤j∧j≤5)(h:∀ k∈n.uses.map (·.1),1≤k∧k≤5):∀ k∈(n.put j).uses.map (·.1),1≤k∧k≤5:=by
  intro k hk
  have hk:k∈(CU n.uses j 0).map (·.1):=hk
  rcases AeX j 0 n.uses with⟨h1,h2⟩ | ⟨h1,h2⟩<;>rw[h2] at hk
  · exact h k hk
  · rcases List.mem_append.1 hk with hk | hk
    · exact h k hk
    · rw[List.mem_singleton] at hk;subst hk;exact hj
theorem AnC{κ α:Type}[DecidableEq κ](k:κ):∀ l:List (κ×α),∀ q∈Adr l k,q∈l
  | [],q,h=>h
  | p :: l,q,h=>by
    unfold Adr at h
    split at h
    · exact List.mem_cons_of_mem _ h
    · rcases List.mem_cons.1 h with rfl | h
      · exact List.mem_cons_self
      · exact List.mem_cons_of_mem _ (AnC k l q h)
theorem Arv{n:Nm}{j:Int}(h:∀ k∈n.uses.map (·.1),1≤k∧k≤5):∀ k∈(n.del j).uses.map (·.1),1≤k∧k≤5:=by
  intro k hk
  obtain⟨q,hq,rfl⟩:=List.mem_map.1 hk
  exact h _ (List.mem_map.2 ⟨q,AnC j _ q hq,rfl⟩)
theorem Avx(p:Wp)(i:Nat)(t:ByteArray):1≤AbN p i t∧AbN p i t≤5:=by
  unfold AbN
  split
  · omega
  · split
    · omega
    · split
      · omega
      · split
        · omega
        · split<;>omega
theorem Amu{p:Wp}(h:UE p):Usb (BV p):=by
  unfold BV
  refine MU (fun q i hq=>MU (P:=Usb) (fun q t hq=>Ani hq i t fun n hn=>AkN (Avx q i t) hn) _ _ hq) _ _ ?_
  intro c hc q hq k hk
  rw[h c hc q hq] at hk
  cases hk
theorem Aoo(h:Int)(t:ByteArray):∀ f k p,Usb p→Usb (ME h t f k p)
  | 0,k,p,hp=>hp
  | f+1,k,p,hp=>by
    unfold ME
    split
    · refine Aoo h t f _ _ ?_
      have h1:Usb (p.mod k.toNat fun s=>s.of t):=LP (C:=UsC) (p:=p) (i:=k.toNat) (f:=fun s=>s.of t) (fun c hc q hq=>by
        unfold Sc.of at hq
        split at hq
        · exact hc q hq
        · rename_i hg
          have e:CU c.names t nm0=c.names ++ [(t,nm0)]:=AbG fun p hp he=>by
            have:=TA hg
            exact this (he▸List.mem_map.2 ⟨p,hp,rfl⟩)
          have hq:q∈CU c.names t nm0:=hq
          rw[e] at hq
          rcases List.mem_append.1 hq with hq | hq
          · exact hc q hq
          · rw[List.mem_singleton] at hq;subst hq
            intro k hk;cases hk) hp
      have h2:=Ani h1 k.toNat t (f:=Nm.put 3) fun n hn=>AkN (by omega) hn
      rw[NY] at h2
      exact h2
    · exact hp
theorem Amv{p:Wp}(h:Usb p):Usb (BW p):=by
  unfold BW
  refine MU (fun q i hq=>MU (P:=Usb) (fun q t hq => ?_) _ _ hq) _ _ h
  unfold EX
  split
  · exact hq
  · exact Ani (Aoo _ _ _ _ _ hq) _ t fun n hn=>AkN (by omega) (Arv hn)
theorem Asv(i:Nat)(p:Wp)(t:ByteArray):p.sub (AlJ i p t) 0:=Wp.sub_mod _ _ _ fun s=>⟨rfl,rfl⟩
theorem Aoh(h:Int)(t:ByteArray):∀ (f:Nat) (k:Int) (p:Wp),Wp.sub p (ME h t f k p) 0
  | 0,k,p=>Wp.sub_refl p
  | f+1,k,p=>by
    unfold ME
    split
    · exact Wp.sub_trans (d:=0) (d':=0) (Wp.sub_mod p k.toNat (fun s=>(s.of t).upd t (Nm.put 3)) fun s=>Aep t s) (Aoh h t f _ _)
    · exact Wp.sub_refl p
theorem Asw(i:Nat)(p:Wp)(t:ByteArray):p.sub (EX i p t) 0:=by
  unfold EX
  split
  · exact Wp.sub_refl p
  · exact Wp.sub_trans (d:=0) (d':=0) (Aoh _ _ _ _ _) (Wp.sub_mod _ _ _ fun s=>⟨rfl,rfl⟩)
theorem AbM{α:Type}{f:Wp→α→Wp}(hf:∀ (p:Wp) (x:α),Wp.sub p (f p x) 0):∀ (l:List α) (p:Wp),p.sub (l.foldl f p) 0
  | [],p=>Wp.sub_refl p
  | x :: l,p=>by rw[List.foldl_cons];exact Wp.sub_trans (d:=0) (d':=0) (hf p x) (AbM hf l _)
theorem Aoi(p:Wp):p.sub (BW (BV p)) 0:=
  Wp.sub_trans (d:=0) (d':=0) (AbM (fun p i=>AbM (fun p t=>Asv i p t) _ _) _ _) (AbM (fun p i=>AbM (fun p t=>Asw i p t) _ _) _ _)
mutual
def Nd.txts:Nd→List ByteArray
  | .mk _ _ t _ _ ks=>t :: Nd.txtss ks
def Nd.txtss:List Nd→List ByteArray
  | []=>[]
  | k :: r=>k.txts++Nd.txtss r
end
mutual
theorem Nd.txts_len:∀ n:Nd,n.txts.length≤n.wt
  | .mk k a t g m ks=>by unfold Nd.txts Nd.wt;have:=Nd.txtss_len ks;simp only[List.length_cons];omega
theorem Nd.txtss_len:∀ l:List Nd,(Nd.txtss l).length≤Nd.wts l
  | []=>by unfold Nd.txtss;exact Nat.zero_le _
  | k :: r=>by unfold Nd.txtss Nd.wts;rw[List.length_append];have:=Nd.txts_len k;have:=Nd.txtss_len r;omega
end
mutual
theorem Nd.txts_size:∀ n:Nd,∀ t∈n.txts,t.size≤n.wt
  | .mk k a t g m ks,u,h=>by
    unfold Nd.txts at h
    have hw:(Nd.mk k a t g m ks).wt=1+t.size+m.length+Nd.wts ks:=by unfold Nd.wt;rfl
    rcases List.mem_cons.1 h with rfl | h
    · omega
    · have:=Nd.txtss_size ks u h;omega
theorem Nd.txtss_size:∀ l:List Nd,∀ t∈Nd.txtss l,t.size≤Nd.wts l
  | [],u,h=>by unfold Nd.txtss at h;cases h
  | k :: r,u,h=>by
    unfold Nd.txtss at h
    unfold Nd.wts
    rcases List.mem_append.1 h with h | h
    · have:=Nd.txts_size k u h;omega
    · have:=Nd.txtss_size r u h;omega
end
mutual
theorem Nd.txts_all(T:List ByteArray):∀ n:Nd,(∀ t∈n.txts,t∈T)→n.All fun k=>k.text∈T
  | .mk k a t g m ks,h=>by
    unfold Nd.txts at h
    unfold Nd.All
    exact⟨h t (by simp),Nd.txtss_all T ks fun u hu=>h u (by simp[hu])⟩
theorem Nd.txtss_all(T:List ByteArray):∀ l:List Nd,(∀ t∈Nd.txtss l,t∈T)→Nd.Alls (fun k=>k.text∈T) l
  | [],_=>by unfold Nd.Alls;trivial
  | k :: r,h=>by
    unfold Nd.txtss at h
    unfold Nd.Alls
    exact⟨Nd.txts_all T k fun u hu=>h u (List.mem_append_left _ hu),Nd.txtss_all T r fun u hu=>h u (List.mem_append_right _ hu)⟩
end
mutual
theorem Nd.all_true:∀ n:Nd,n.All fun _=>True
  | .mk k a t g m ks=>by unfold Nd.All;exact⟨trivial,Nd.alls_true ks⟩
theorem Nd.alls_true:∀ l:List Nd,Nd.Alls (fun _=>True) l
  | []=>by unfold Nd.Alls;trivial
  | k :: r=>by unfold Nd.Alls;exact⟨Nd.all_true k,Nd.alls_true r⟩
end
end Go.Proofs.YtjiagmjfnbljjaaGreatDoor
end
section
namespace Go.Proofs.YtjiagmjfnbljjaaGreatDoor
open Go
set_option maxHeartbeats 4000000
set_option linter.unusedVariables false
theorem Aeo(c:Sc)(t:ByteArray)(a:Int)(b:Bool):(c.occ t a b).kind=c.kind:=SV t c
theorem AnA(p:Wp)(i:Nat)(k:Nd)(kind:Int):(PK kind i k p).scs=(p.mod i fun c=>(c.of k.text).upd k.text fun n=>{ n with by_:=kind }).scs:=by
  unfold PK
  show(((p.mod i (·.of k.text)).fault _ _ _).scs.modify i _)=_
  rw[EA]
  show((p.scs.modify i _).modify i _)=p.scs.modify i _
  apply List.ext_getElem?
  intro j
  rw[List.getElem?_modify,List.getElem?_modify,List.getElem?_modify]
  cases p.scs[j]? with
  | none=>rfl
  | some x=>by_cases hij:i=j<;>simp[hij]
theorem Atz(p:Wp)(i:Nat)(k:Nd):(NN i k p).scs=(p.mod i fun c=>{ ((c.occ k.text k.at_ true).of k.text).upd k.text (fun n=>{ n with param:=true }) with params:=(c.occ k.text k.at_ true).params ++ [k.text] }).scs:=by
  unfold NN
  show((p.scs.modify i _).modify i _)=p.scs.modify i _
  apply List.ext_getElem?
  intro j
  rw[List.getElem?_modify,List.getElem?_modify,List.getElem?_modify]
  cases p.scs[j]? with
  | none=>rfl
  | some x=>by_cases hij:i=j<;>simp[hij]
theorem Acx{C:Nat→Sc→Prop}{p:Wp}{i:Nat}{f:Sc→Sc}(hf:∀ j c,C j c→C j (f c))(h:∀ j c,p.scs[j]? = some c→C j c):∀ j c,(p.mod i f).scs[j]? = some c→C j c:=by
  intro j c hc
  rw[Aa1] at hc
  cases hp:p.scs[j]? with
  | none=>rw[hp] at hc;simp at hc
  | some x=>
    rw[hp] at hc
    split at hc
    · simp only[Option.map_some,Option.some.injEq] at hc
      rw[← hc];exact hf j x (h j x hp)
    · cases hc;exact h j _ hp
theorem AuF{b:Bool}{X:Nd→Prop}{C:Nat→Sc→Prop}(h0:∀ k a (s i:Nat),(k=2∨k=3∨k=4)→s<i→C i ⟨k,a,s,[],[],0⟩)
    (hf:∀ j c c',C j c→c'.kind=c.kind→c'.around=c.around→C j c'):Inv b X fun p=>∀ j c,p.scs[j]? = some c→C j c where
  occ:=fun p i n b _ _ h=>Acx (f:=fun s=>s.occ n.text n.at_ b) (fun j c hc=>hf j c _ hc (Aeo c _ _ _) (KN _ c)) h
  fault:=fun p c n b _ h=>by rw[EA];exact h
  opn:=fun p k n s _ hk hs h j c hc=>by
    have hc:(p.scs ++ [⟨k,n.at_,s,[],[],0⟩])[j]? = some c:=hc
    by_cases hj:j<p.scs.length
    · rw[List.getElem?_append_left hj] at hc
      exact h j c hc
    · rw[List.getElem?_append_right (by omega)] at hc
      cases hz:j - p.scs.length with
      | zero=>
        rw[hz] at hc
        simp at hc
        subst hc
        exact h0 k n.at_ s j hk (by omega)
      | succ z=>rw[hz] at hc;simp at hc
  decl:=fun p kind i k _ _ _ h=>by
    rw[AnA]
    exact Acx (fun j c hc=>hf j c _ hc (SV _ c) (KN _ c)) h
  par:=fun p i k _ _ _ h=>by
    rw[Atz]
    exact Acx (fun j c hc=>hf j c _ hc (by show((c.occ _ _ _).of _).kind=_;rw[SV,Aeo]) (by show((c.occ _ _ _).of _).around=_;rw[KN];exact KN _ c)) h
  tri:=fun p i _ h=>Acx (fun j c hc=>hf j c _ hc rfl rfl) h
theorem AnM{p q:Wp}(h:q.scs=p.scs)(j:Nat):q.kindOf j=p.kindOf j:=by unfold Wp.kindOf;rw[h]
theorem Ath(j:Nat)(K:Int):Inv false (fun _=>True) fun q=>j<q.scs.length∧q.kindOf j=K where
  occ:=fun p i n b _ _ h=>⟨Nat.lt_of_lt_of_le h.1 (Wp.sub_occ _ _ _ _ _).ge,by unfold Wp.occ;rw[Ael _ _ _ fun c=>Aeo c _ _ _];exact h.2⟩
  fault:=fun p c n b _ h=>⟨by rw[EA];exact h.1,by rw[AnM (EA _ _ _ _)];exact h.2⟩
  opn:=fun p k n s _ _ _ h=>by
    have e:(p.open_ k n.at_ s).scs=p.scs ++ [⟨k,n.at_,s,[],[],0⟩]:=rfl
    refine⟨by rw[e,List.length_append];have:=h.1;omega,?_⟩
    rw[← h.2]
    unfold Wp.kindOf
    rw[e,List.getElem?_append_left h.1]
  decl:=fun p kind i k _ _ _ h=>⟨Nat.lt_of_lt_of_le h.1 (Wp.sub_decl _ _ _ _).ge,by
    rw[AnM (AnA p i k kind),Ael p i j (f:=fun c=>(c.of k.text).upd k.text fun n=>{ n with by_:=kind }) fun c=>SV k.text c];exact h.2⟩
  par:=fun p i k _ _ _ h=>⟨Nat.lt_of_lt_of_le h.1 (Wp.sub_par _ _ _).ge,by rw[Amk];exact h.2⟩
  tri:=fun p i _ h=>⟨by unfold Wp.mod;simpa using h.1,by rw[Ael p i j (f:=fun c=>{ c with tries:=c.tries+1 }) fun c=>rfl];exact h.2⟩
theorem kst:KSt:=fun f tgt n s lp ex p j hs hj=>(Ajw (Ath j (p.kindOf j)) nofun f tgt n s lp ex p (Nd.all_true n) ⟨⟨hj,rfl⟩,hs⟩).1.2
theorem Aty:Inv true (fun _=>True) fun p=>∀ c∈p.scs,c.params≠[]→c.kind=2:=
  AoP (fun k a s _ h=>absurd rfl h) (fun c n b _ h hp=>by rw[Aeo];exact h (by rw[← (ApK n.text n.at_ b c).2];exact hp))
    (fun c kind k _ _ h hp=>by
      have e:((c.of k.text).upd k.text fun n=>{ n with by_:=kind }).params=c.params:=(Aep k.text c).2
      rw[e] at hp
      have:=h hp
      show(c.of k.text).kind=2
      rw[SV];exact this)
    (fun c k _ hb _ _=>by show((c.occ _ _ _).of _).kind=2;rw[SV,Aeo];exact hb rfl) fun c h hp=>h hp
def Ar2(p:Wp):Prop:=∀ (j:Nat) (c:Sc),p.scs[j]? = some c→(j=0→c.around = -1∧c.kind=1)∧(0<j→0≤c.around∧c.around<(j:Int)∧(c.kind=2∨c.kind=3∨c.kind=4))
theorem AsV{b:Bool}:Inv b (fun _=>True) Ar2:=
  AuF (C:=fun j c=>(j=0→c.around = -1∧c.kind=1)∧(0<j→0≤c.around∧c.around<(j:Int)∧(c.kind=2∨c.kind=3∨c.kind=4))) (fun k a s i hk hs=>⟨fun h=>by omega,fun _=>⟨by show(0:Int)≤(s:Int);omega,by show(s:Int)<i;omega,hk⟩⟩) (fun j c c' h hk ha=>by rw[hk,ha];exact h)
def Aje(hi:Int)(p:Wp):Prop:=(p.code=0∨(0≤p.at_∧p.at_≤hi))∧∀ q∈p.lat,0≤q.at_∧q.at_≤hi
theorem Aje.fault{hi:Int}{p:Wp}(h:Aje hi p){c a:Int}{b:Bool}(ha:0≤a∧a≤hi):Aje hi (p.fault c a b):=by
  refine⟨?_,by rw[AeK];exact h.2⟩
  unfold Wp.fault
  split
  · exact .inr ha
  · exact h.1
theorem Atb{b:Bool}(hi:Int):Inv b (Rg hi) (Aje hi) where
  occ:=fun p i n b _ _ h=>h
  fault:=fun p c n b hn h=>h.fault hn
  opn:=fun p k n s _ _ _ h=>h
  decl:=fun p kind i k hk _ _ h=>by
    have h1:Aje hi (p.mod i (·.of k.text)):=h
    have h2:=h1.fault (c:=114) (b:=((p.mod i (·.of k.text)).byOf i k.text != 0 && (p.mod i (·.of k.text)).byOf i k.text != kind)) hk
    refine⟨h2.1,fun q hq => ?_⟩
    rcases List.mem_append.1 (show q∈_ ++ [_] from hq) with hq | hq
    · exact h2.2 q hq
    · rw[List.mem_singleton] at hq
      subst hq
      exact hk
  par:=fun p i k _ _ _ h=>h
  tri:=fun p i _ h=>h
theorem Aje.asks{hi:Int}:∀ (l:List La) (p:Wp),(∀ q∈l,0≤q.at_∧q.at_≤hi)→Aje hi p→Aje hi (l.foldl (fun p q=>Adq q p) p)
  | [],p,_,h=>h
  | q :: l,p,hl,h=>by
    rw[List.foldl_cons]
    refine Aje.asks l _ (fun x hx=>hl x (by simp[hx])) ?_
    have hq:=hl q (by simp)
    unfold Adq
    dsimp only
    split
    · exact(h.fault hq).fault hq
    · exact h.fault hq
theorem Al6{C:Sc→Prop}(hu:∀ c t k,C c→C (c.upd t (Nm.put k)))(i:Nat)(p:Wp)(t:ByteArray)(h:∀ c∈p.scs,C c):∀ c∈(AlJ i p t).scs,C c:=LP (fun c hc=>hu c _ _ hc) h
theorem Al5{C:Sc→Prop}(ho:∀ c t,C c→C (c.of t))(hu:∀ c t k,C c→C (c.upd t (Nm.put k)))(h:Int)(t:ByteArray):∀ (f:Nat) (k:Int) (p:Wp),(∀ c∈p.scs,C c)→∀ c∈(ME h t f k p).scs,C c
  | 0,k,p,hp=>hp
  | f+1,k,p,hp=>by
    unfold ME
    split
    · exact Al5 ho hu h t f _ _ (LP (p:=p) (i:=k.toNat) (f:=fun s=>(s.of t).upd t (Nm.put 3)) (fun c hc=>hu _ _ _ (ho c t hc)) hp)
    · exact hp
theorem Aqv{C:Sc→Prop}(ho:∀ c t,C c→C (c.of t))(hu:∀ c t k,C c→C (c.upd t (Nm.put k)))(hd:∀ c t,C c→C (c.upd t fun n=>(n.del 1).put 2))(i:Nat)(p:Wp)(t:ByteArray)(h:∀ c∈p.scs,C c):∀ c∈(EX i p t).scs,C c:=by
  unfold EX
  split
  · exact h
  · exact LP (p:=ME (VZ p i t) t (p.scs.length+1) (ZM p i) p) (i:=(VZ p i t).toNat) (f:=fun s=>s.upd t fun n=>(n.del 1).put 2) (fun c hc=>hd c t hc) (Al5 ho hu _ _ _ _ _ h)
theorem Al7{C:Sc→Prop}(ho:∀ c t,C c→C (c.of t))(hu:∀ c t k,C c→C (c.upd t (Nm.put k)))(hd:∀ c t,C c→C (c.upd t fun n=>(n.del 1).put 2)){p:Wp}(h:∀ c∈p.scs,C c):∀ c∈(BW (BV p)).scs,C c:=by
  unfold BW
  refine MU (P:=fun q=>∀ c∈q.scs,C c) (fun q i hq=>MU (P:=fun q=>∀ c∈q.scs,C c) (fun q t hq=>Aqv ho hu hd i q t hq) _ _ hq) _ _ ?_
  unfold BV
  exact MU (P:=fun q=>∀ c∈q.scs,C c) (fun q i hq=>MU (P:=fun q=>∀ c∈q.scs,C c) (fun q t hq=>Al6 hu i q t hq) _ _ hq) _ _ h
def UsN(c:Sc):Prop:=∀ q∈c.names,(q.2.uses.map (·.1)).Nodup
theorem Amn{l:List (Int×Int)}(h:(l.map (·.1)).Nodup)(k v:Int):((CU l k v).map (·.1)).Nodup:=by
  rcases AeX k v l with⟨_,h2⟩ | ⟨h1,h2⟩<;>rw[h2]
  · exact h
  · rw[List.nodup_append]
    refine⟨h,by simp,fun a ha b hb => ?_⟩
    rw[List.mem_singleton] at hb
    subst hb
    exact fun he=>h1 (he▸ha)
theorem Ag4{κ α:Type}[DecidableEq κ](k:κ):∀ l:List (κ×α),(Adr l k).Sublist l
  | []=>.slnil
  | p :: l=>by
    unfold Adr
    split
    · exact List.sublist_cons_self _ _
    · exact(Ag4 k l).cons_cons _
theorem Ap3{c:Sc}(h:UsN c)(t:ByteArray){f:Nm→Nm}(hf:∀ n:Nm,(n.uses.map (·.1)).Nodup→((f n).uses.map (·.1)).Nodup):UsN (c.upd t f):=by
  intro q hq
  obtain⟨q',hq',rfl⟩:=List.mem_map.1 (show q∈c.names.map _ from hq)
  split
  · exact hf q'.2 (h q' hq')
  · exact h q' hq'
theorem Avv{c:Sc}(h:UsN c)(t:ByteArray):UsN (c.of t):=by
  unfold Sc.of
  split
  · exact h
  · rename_i hg
    have e:CU c.names t nm0=c.names ++ [(t,nm0)]:=AbG fun p hp he=>TA hg (he▸List.mem_map.2 ⟨p,hp,rfl⟩)
    intro q hq
    have hq:q∈CU c.names t nm0:=hq
    rw[e] at hq
    rcases List.mem_append.1 hq with hq | hq
    · exact h q hq
    · rw[List.mem_singleton] at hq;subst hq
      exact .nil
theorem AsL{p:Wp}(h:UE p):∀ c∈(BW (BV p)).scs,UsN c:=
  Al7 (fun c t hc=>Avv hc t) (fun c t k hc=>Ap3 hc t fun n hn=>Amn hn k 0) (fun c t hc=>Ap3 hc t fun n hn=>Amn (hn.sublist ((Ag4 1 n.uses).map _)) 2 0) fun c hc q hq=>by
    rw[h c hc q hq];exact .nil
theorem Aa8(p:Wp)(i:Nat)(t:ByteArray){f:Nm→Nm}{k:Int}(hf:∀ n:Nm,(ZJ n.uses k).isSome=true→(ZJ (f n).uses k).isSome=true){j:Nat}{u:ByteArray}(h:GK p j u k=true):GK (p.mod i fun s=>s.upd t f) j u k=true:=by
  unfold GK at *
  rw[FP]
  split
  · unfold Wp.nmOf at h
    cases hs:p.scs[j]? with
    | none=>rw[hs] at h;exact h
    | some c=>
      rw[hs] at h
      dsimp only at h ⊢
      rw[AeG]
      split
      · rename_i hu
        unfold Sc.nm at h
        cases hg:ZJ c.names u with
        | none=>rw[hg] at h;exact h
        | some n=>rw[hg] at h;exact hf n h
      · exact h
  · exact h
theorem AkO(n:Nm)(j k:Int)(h:(ZJ n.uses k).isSome=true):(ZJ (n.put j).uses k).isSome=true:=by
  rw[AcA]
  split
  · rfl
  · exact h
theorem At4(p:Wp)(i:Nat)(t:ByteArray)(j:Nat)(u:ByteArray)(k:Int):GK (p.mod i fun s=>s.of t) j u k=GK p j u k:=by
  unfold GK
  rw[FP]
  split
  · rename_i hij
    unfold Wp.nmOf
    cases p.scs[j]? with
    | none=>rfl
    | some c=>dsimp only;rw[AkI]
  · rfl
theorem Ain(h:Int)(t:ByteArray){j:Nat}{u:ByteArray}{k:Int}:∀ (f:Nat) (i:Int) (p:Wp),GK p j u k=true→GK (ME h t f i p) j u k=true
  | 0,i,p,hp=>hp
  | f+1,i,p,hp=>by
    unfold ME
    split
    · refine Ain h t f _ _ ?_
      have e:(p.mod i.toNat fun s=>(s.of t).upd t (Nm.put 3))=(p.mod i.toNat fun s=>s.of t).mod i.toNat fun s=>s.upd t (Nm.put 3):=by rw[NY]
      rw[e]
      exact Aa8 _ _ _ (fun n hn=>AkO n 3 k hn) (by rw[At4];exact hp)
    · exact hp
theorem AeZ{i:Nat}{p:Wp}{t:ByteArray}{j:Nat}{u:ByteArray}{k:Int}(hk:k≠1)(h:GK p j u k=true):GK (EX i p t) j u k=true:=by
  unfold EX
  split
  · exact h
  · refine Aa8 _ _ _ (fun n hn => ?_) (Ain _ _ _ _ _ h)
    refine AkO _ 2 k ?_
    show(ZJ (Adr n.uses 1) k).isSome=true
    rw[AdZ 1 k _ hk];exact hn
theorem Aop(p:Wp)(i:Nat)(t:ByteArray){f:Nm→Nm}{k:Int}{c:Sc}(hc:p.scs[i]? = some c){n:Nm}(hn:ZJ c.names t=some n)(hf:(ZJ (f n).uses k).isSome=true):GK (p.mod i fun s=>s.upd t f) i t k=true:=by
  unfold GK
  rw[FP,if_pos rfl,hc]
  dsimp only
  rw[AeG,if_pos rfl,hn];exact hf
theorem Aq3{p:Wp}(ha:CX p)(hF:DZ p){i:Nat}{t:ByteArray}(h3:GK p i t 3=true):0≤ZM p i∧(GK (EX i p t) (ZM p i).toNat t 2=true∨GK (EX i p t) (ZM p i).toNat t 3=true):=by
  have h0:=hF i t h3
  obtain⟨h1,h2,c,hc,hg⟩:=Acp ha h0
  refine⟨by omega,?_⟩
  have he:EX i p t=(ME (VZ p i t) t (p.scs.length+1) (ZM p i) p).mod (VZ p i t).toNat fun s=>s.upd t fun n=>(n.del 1).put 2:=by
    unfold EX
    rw[if_neg]
    unfold GK at h3
    cases hq:ZJ (p.nmOf i t).uses 3 with
    | none=>rw[hq] at h3;cases h3
    | some v=>simp
  have hal:=SZ ha i
  obtain⟨_,hkeep⟩:=AeO ha _ h0 t (p.scs.length+1) (ZM p i) (p.scs.length+1) hal.2 (Akr h0) hF
  rw[he]
  by_cases heq:ZM p i=VZ p i t
  · left
    have ht:(ZM p i).toNat=(VZ p i t).toNat:=by rw[heq]
    rw[ht]
    have hc2:=hkeep (VZ p i t).toNat (by omega)
    rw[hc] at hc2
    obtain⟨n,hn⟩:∃ n,ZJ c.names t=some n:=by
      unfold Sc.gives at hg
      cases hq:ZJ c.names t with
      | some n=>exact⟨n,rfl⟩
      | none=>rw[hq] at hg;simp at hg
    exact Aop _ _ _ hc2 hn (by rw[AcA,if_pos rfl];rfl)
  · right
    have hlt:ZM p i > VZ p i t:=by omega
    refine Aa8 _ _ _ (fun n hn => ?_) ?_
    · refine AkO _ 2 3 ?_
      show(ZJ (Adr n.uses 1) 3).isSome=true
      rw[AdZ 1 3 _ (by omega)];exact hn
    · unfold ME
      rw[if_pos hlt]
      refine Ain _ _ _ _ _ ?_
      obtain⟨c1,hc1⟩:∃ c1,p.scs[(ZM p i).toNat]? = some c1:=⟨_,List.getElem?_eq_getElem (by omega)⟩
      have e:(p.mod (ZM p i).toNat fun s=>(s.of t).upd t (Nm.put 3))=(p.mod (ZM p i).toNat fun s=>s.of t).mod (ZM p i).toNat fun s=>s.upd t (Nm.put 3):=by rw[NY]
      rw[e]
      refine Aop (p.mod (ZM p i).toNat fun s=>s.of t) _ t (c:=c1.of t) ?_ (n:=(ZJ c1.names t).getD nm0) ?_ (by rw[AcA,if_pos rfl];rfl)
      · rw[Aa1,if_pos rfl,hc1];rfl
      · rw[AmZ,if_pos rfl]
theorem Amw{p:Wp}(ha:CX p)(hF:DZ p)(i:Nat)(t:ByteArray){j:Nat}(hj:i≤j):(EX i p t).scs[j]? = p.scs[j]?:=by
  have pass:∀ (h:Int) (f:Nat) (k:Int) (p:Wp),CX p→k<i→-1≤k→-1≤h→(ME h t f k p).scs[j]? = p.scs[j]?:=by
    intro h f
    induction f with
    | zero=>intro k p _ _ _ _;rfl
    | succ f ih=>
      intro k p ha hk hk0 hh
      unfold ME
      split
      · have hsm:Sm p (p.mod k.toNat fun s=>(s.of t).upd t (Nm.put 3)):=Sm.mod p k.toNat fun s=>(Sc.Sm.of s t).trans (.upd _ t (AeF 3))
        have hal:ZM p k.toNat<k∨ZM p k.toNat = -1:=by
          unfold ZM
          cases hs:p.scs[k.toNat]? with
          | none=>exact .inr rfl
          | some s=>have:=ha _ s hs;left;dsimp only;omega
        have hal2:=(SZ ha k.toNat).1
        rw[ih (ZM p k.toNat) _ (hsm.arnd ha) (by omega) hal2 hh,Aa1,if_neg (by omega)]
      · rfl
  unfold EX
  split
  · rfl
  · rename_i hu
    have h0:=hF i t (by unfold GK;cases h:ZJ (p.nmOf i t).uses 3<;>simp_all)
    obtain⟨h1,h2,_⟩:=Acp ha h0
    have hal:ZM p i<i:=by
      unfold ZM at h2 ⊢
      cases hs:p.scs[i]? with
      | none=>rw[hs] at h2;dsimp only at h2;omega
      | some s=>have:=ha _ s hs;dsimp only;omega
    rw[Aa1,if_neg (by omega)]
    exact pass _ _ _ _ ha hal (SZ ha i).1 (by omega)
theorem Alh{p q:Wp}{j:Nat}(h:q.scs[j]? = p.scs[j]?)(t:ByteArray)(k:Int):GK q j t k=GK p j t k:=by unfold GK Wp.nmOf;rw[h]
def AgV(m:Nat)(p:Wp):Prop:=∀ j t,m≤j→GK p j t 3=true→0≤ZM p j∧(GK p (ZM p j).toNat t 2=true∨GK p (ZM p j).toNat t 3=true)
theorem AsI{p:Wp}{i:Nat}{t:ByteArray}{k:Int}(h:GK p i t k=true):t∈XV p i:=by
  unfold GK Wp.nmOf at h
  unfold XV
  cases hs:p.scs[i]? with
  | none=>rw[hs] at h;cases h
  | some c=>
    rw[hs] at h
    dsimp only at h ⊢
    unfold Sc.nm at h
    cases hg:ZJ c.names t with
    | none=>rw[hg] at h;cases h
    | some n=>exact(EC _).mem_iff.2 (List.mem_map.2 ⟨_,CF hg,rfl⟩)
theorem AqB{p:Wp}(ha:CX p)(hF:DZ p){i:Nat}{t:ByteArray}(hL:AgV (i+1) p):AgV (i+1) (EX i p t):=by
  intro j u hj hu
  rw[Alh (Amw ha hF i t (by omega))] at hu
  obtain⟨h1,h2⟩:=hL j u hj hu
  rw[(AcI i p t).ar]
  exact⟨h1,h2.imp (AeZ (by omega)) (AeZ (by omega))⟩
theorem Ama{i:Nat}:∀ (ts:List ByteArray) (p:Wp),CX p→DZ p→AgV (i+1) p→(∀ t,GK p i t 3=true→t∈ts∨(0≤ZM p i∧(GK p (ZM p i).toNat t 2=true∨GK p (ZM p i).toNat t 3=true)))→AgV i (ts.foldl (EX i) p)
  | [],p,ha,hF,hL,ht=>by
    intro j u hj hu
    by_cases hij:j=i
    · subst hij
      exact(ht u hu).resolve_left (by simp)
    · exact hL j u (by omega) hu
  | t :: ts,p,ha,hF,hL,ht=>by
    rw[List.foldl_cons]
    refine Ama ts _ ((AcI i p t).arnd ha) (AeP ha hF i t) (AqB ha hF hL) fun u hu => ?_
    rw[Alh (Amw ha hF i t (Nat.le_refl _))] at hu
    rw[(AcI i p t).ar]
    by_cases hut:u=t
    · subst hut
      exact .inr (Aq3 ha hF hu)
    · rcases ht u hu with h | ⟨h1,h2⟩
      · rcases List.mem_cons.1 h with h | h
        · exact absurd h hut
        · exact .inl h
      · exact .inr ⟨h1,h2.imp (AeZ (by omega)) (AeZ (by omega))⟩
theorem AhR{i:Nat}:∀ (ts:List ByteArray) (p:Wp),CX p→DZ p→CX (ts.foldl (EX i) p)∧DZ (ts.foldl (EX i) p)
  | [],p,ha,hF=>⟨ha,hF⟩
  | t :: ts,p,ha,hF=>by rw[List.foldl_cons];exact AhR ts _ ((AcI i p t).arnd ha) (AeP ha hF i t)
theorem AnS:∀ (m:Nat) (p:Wp),CX p→DZ p→AgV m p→AgV 0 ((List.range m).reverse.foldl (fun p i=>(XV p i).foldl (EX i) p) p)
  | 0,p,_,_,h=>h
  | m+1,p,ha,hF,h=>by
    rw[List.range_succ,List.reverse_append]
    show AgV 0 ((List.range m).reverse.foldl _ ((XV p m).foldl (EX m) p))
    obtain⟨h1,h2⟩:=AhR (i:=m) (XV p m) p ha hF
    exact AnS m _ h1 h2 (Ama _ p ha hF h fun t ht=>.inl (AsI ht))
theorem AoT{p:Wp}(ha:CX p)(hF:DZ p):AgV 0 (BW p):=by
  unfold BW
  refine AnS _ p ha hF fun j t hj hu => ?_
  unfold GK Wp.nmOf at hu
  rw[List.getElem?_eq_none_iff.2 hj] at hu
  cases hu
theorem AlQ(h:Int)(t:ByteArray){j:Nat}{u:ByteArray}{k:Int}(hk:k≠3):∀ (f:Nat) (i:Int) (p:Wp),GK (ME h t f i p) j u k=true→GK p j u k=true
  | 0,i,p,hp=>hp
  | f+1,i,p,hp=>by
    unfold ME at hp
    split at hp
    · have:=AlQ h t hk f _ _ hp
      rcases Agt _ _ _ _ _ _ this with h | ⟨_,_,h⟩
      · exact h
      · exact absurd h hk
    · exact hp
theorem Aqd{i:Nat}{p:Wp}{t:ByteArray}{j:Nat}{u:ByteArray}{k:Int}(hk:k≠3)(hk2:k≠2)(h:GK (EX i p t) j u k=true):GK p j u k=true:=by
  unfold EX at h
  split at h
  · exact h
  · refine AlQ (VZ p i t) t hk (p.scs.length+1) (ZM p i) p ?_
    generalize ME (VZ p i t) t (p.scs.length+1) (ZM p i) p=q at h ⊢
    unfold GK at h ⊢
    rw[FP] at h
    split at h
    · cases hs:q.scs[j]? with
      | none=>rw[hs] at h;cases h
      | some c=>
        rw[hs] at h
        dsimp only at h
        unfold Wp.nmOf
        rw[hs]
        dsimp only
        rw[AeG] at h
        split at h
        · cases hg:ZJ c.names u with
          | none=>rw[hg] at h;cases h
          | some n=>
            rw[hg] at h
            dsimp only at h
            rw[AcA,if_neg hk2] at h
            unfold Sc.nm
            rw[hg]
            show(ZJ n.uses k).isSome=true
            have:∀ l:List (Int×Int),(ZJ (Adr l 1) k).isSome=true→(ZJ l k).isSome=true:=by
              intro l
              by_cases h1:k=1
              · subst h1
                intro hh
                induction l with
                | nil=>exact hh
                | cons q l ih=>
                  unfold ZJ
                  split
                  · rfl
                  · rename_i hq
                    unfold Adr at hh
                    rw[if_neg hq] at hh
                    unfold ZJ at hh
                    rw[if_neg hq] at hh
                    exact ih hh
              · rw[AdZ 1 k l h1];exact id
            exact this _ h
        · exact h
    · exact h
theorem AoE{p:Wp}{j:Nat}{u:ByteArray}{k:Int}(hk:k≠3)(hk2:k≠2)(h:GK (BW p) j u k=true):GK p j u k=true:=by
  unfold BW at h
  have:∀ (l:List Nat) (p:Wp),GK (l.foldl (fun p i=>(XV p i).foldl (EX i) p) p) j u k=true→GK p j u k=true:=by
    intro l
    induction l with
    | nil=>intro p h;exact h
    | cons i l ih=>
      intro p h
      rw[List.foldl_cons] at h
      have h1:=ih _ h
      have:∀ (ts:List ByteArray) (p:Wp),GK (ts.foldl (EX i) p) j u k=true→GK p j u k=true:=by
        intro ts
        induction ts with
        | nil=>intro p h;exact h
        | cons t ts ih2=>intro p h;rw[List.foldl_cons] at h;exact Aqd hk hk2 (ih2 _ h)
      exact this _ _ h1
  exact this _ p h
theorem Aq5{p:Wp}(ha:CX p)(hF:DZ p)(h0:p.kindOf 0=1)(i:Nat)(t:ByteArray):(EX i p t).scs[0]? = p.scs[0]?:=by
  have pass:∀ (h:Int) (f:Nat) (k:Int) (p:Wp),0≤h→(ME h t f k p).scs[0]? = p.scs[0]?:=by
    intro h f
    induction f with
    | zero=>intro k p _;rfl
    | succ f ih=>
      intro k p hh
      unfold ME
      split
      · rw[ih _ _ hh,Aa1,if_neg (by omega)]
      · rfl
  unfold EX
  split
  · rfl
  · rename_i hu
    have hh:=hF i t (by unfold GK;cases h:ZJ (p.nmOf i t).uses 3<;>simp_all)
    obtain⟨h1,h2,c,hc,hg⟩:=Acp ha hh
    have hne:(VZ p i t).toNat≠0:=by
      intro he
      rw[he] at hc
      unfold Wp.kindOf at h0
      rw[hc] at h0
      rw[Akm] at hg
      have h0:c.kind=1:=h0
      rw[h0] at hg
      simp at hg
    rw[Aa1,if_neg hne]
    exact pass _ _ _ _ (by omega)
theorem Apl{p:Wp}(ha:CX p)(hF:DZ p)(h0:p.kindOf 0=1):(BW p).scs[0]? = p.scs[0]?:=by
  unfold BW
  have:∀ (l:List Nat) (p:Wp),CX p→DZ p→p.kindOf 0=1→(l.foldl (fun p i=>(XV p i).foldl (EX i) p) p).scs[0]? = p.scs[0]?:=by
    intro l
    induction l with
    | nil=>intro p _ _ _;rfl
    | cons i l ih=>
      intro p ha hF h0
      rw[List.foldl_cons]
      have inner:∀ (ts:List ByteArray) (p:Wp),CX p→DZ p→p.kindOf 0=1→(ts.foldl (EX i) p).scs[0]? = p.scs[0]? ∧ (ts.foldl (EX i) p).kindOf 0=1:=by
        intro ts
        induction ts with
        | nil=>intro p _ _ h;exact⟨rfl,h⟩
        | cons t ts ih2=>
          intro p ha hF h0
          rw[List.foldl_cons]
          have h1:(EX i p t).kindOf 0=1:=by rw[(AcI i p t).kind];exact h0
          obtain⟨h2,h3⟩:=ih2 _ ((AcI i p t).arnd ha) (AeP ha hF i t) h1
          exact⟨by rw[h2,Aq5 ha hF h0 i t],h3⟩
      obtain⟨h1,h2⟩:=inner (XV p i) p ha hF h0
      obtain⟨h3,h4⟩:=AhR (i:=i) (XV p i) p ha hF
      rw[ih _ h3 h4 h2,h1]
  exact this _ p ha hF h0
end Go.Proofs.YtjiagmjfnbljjaaGreatDoor
end
