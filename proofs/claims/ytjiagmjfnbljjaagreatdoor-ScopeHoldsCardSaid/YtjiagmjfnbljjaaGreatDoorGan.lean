/- Lemmas for the statement proved in the last of these texts: part 14 of 25. Conditions: none. -/
import Derived.Test.YtjiagmjfnbljjaaGreatDoorGaj
import Derived.Test.YtjiagmjfnbljjaaGreatDoorGae
import Derived.Lib.SliceRun
section
namespace Go.Proofs.YtjiagmjfnbljjaaGreatDoor
open Go Go.MapKept
set_option maxHeartbeats 4000000
set_option linter.unusedVariables false
set_option linter.unusedSimpArgs false
theorem As8{w:World}(s:Sl):(do eqGuard .eql 25 (.const s.v) (.const (.slice none 0 0)) s.v (.slice none 0 0);binOp .eql 25 s.v (.slice none 0 0):Sem Value).run PP w = .ok (.bool s.a.isNone) w:=by
  have h:=Lib.run_eql_slice_nil (P:=PP) w 25 27 s.a s.n s.c 0 0 NP.1
  have hg:eqGuard .eql 25 (.const s.v) (.const (.slice none 0 0)) s.v (.slice none 0 0)=pure ():=by
    simp[eqGuard,Sl.v]
  rw[hg]
  exact h
theorem AeM(xs:List JA):(VM xs).length=xs.length * 6:=by
  unfold VM
  induction xs with
  | nil=>rfl
  | cons x r ih=>
    have h6:x.cells.toList.length=6:=rfl
    rw[List.flatMap_cons,List.length_append,ih,h6,List.length_cons];omega
theorem Aqo(xs ys:List JA):VM (xs++ys)=VM xs++VM ys:=by unfold VM;simp
theorem Abx{xs:List JA}:∀ {i:Nat} {x:JA},xs[i]? = some x→∀ k v,x.cells.toList[k]? = some v→(VM xs)[i * 6+k]? = some v:=by
  intro i x h k v hk
  have hi:=(List.getElem?_eq_some_iff.1 h).1
  have hx:xs[i] = x:=(List.getElem?_eq_some_iff.1 h).2
  have hd:xs=xs.take i++x :: xs.drop (i+1):=by
    rw[← hx,List.getElem_cons_drop,List.take_append_drop]
  have h6:x.cells.toList.length=6:=rfl
  have hk6:=(List.getElem?_eq_some_iff.1 hk).1
  have hl:(VM (xs.take i)).length=i * 6:=by rw[AeM,List.length_take];rw[Nat.min_eq_left (by omega)]
  have hf:VM xs=VM (xs.take i)++(x.cells.toList++VM (xs.drop (i+1))):=by
    conv=>lhs;rw[hd]
    rw[Aqo];rfl
  rw[hf,List.getElem?_append_right (by omega),hl,Nat.add_sub_cancel_left,List.getElem?_append_left hk6]
  exact hk
theorem JD.nd{w:World}{p:Addr}{xs:List JA}(h:JD w p (VM xs)){i:Nat}{x:JA}(hx:xs[i]? = some x):JD w (p.add (i * 6)) x.cells.toList:=fun k v hk=>by
  rw[II];exact h _ _ (Abx hx k v hk)
theorem AnW{w:World}{x:JA}{K:Bool→World→Prop}(c:∀ w',Ext w w'→K (x.Kind != 52) w'):clv (Fv.v ⟨51,#[]⟩) #[x.v] JS K w:=by
  refine⟨51,#[],rfl,rfl,?_⟩
  refine AaQ _ _ _ ?_
  unfold NC
  intro ad w1 n1
  refine JO (x:=x.Kind) (by simpa [JP] using n1.cells 0 _ rfl) ?_
  exact Rt.mk (h:=JS) _ (c _ n1.fr)
theorem AmH{w:World}{s:Sl}{xs:List JA}(hn:s.n=xs.length)(hlen:xs.length≤2147483648){p:Addr}(ha:s.a=some p)(hc:JD w p (VM xs)){K:Int→World→Prop}
    (c1:(∀ x∈xs,x.Kind=52)→∀ w',Ext w w'→K (-1) w') (c2:∀ i:Nat,i<xs.length→(∀ x∈xs.take i,x.Kind=52)→(∀ x,xs[i]? = some x→x.Kind≠52)→∀ w',Ext w w'→K (i:Int) w') :
    XR s ⟨51,#[]⟩ K w:=by
  refine XC _ _ _ _ ?_
  unfold YQ
  refine YE (fun m (i:Int) w'=>∃ k:Nat,i=k∧m+k=xs.length∧Ext w w'∧∀ x∈xs.take k,x.Kind=52) xs.length (0:Int) rfl ⟨0,rfl,rfl,.refl w,by simp⟩ ?_
  rintro m i w1 ⟨k,rfl,hm,he,hall⟩ again hag
  refine JE (fun hlt => ?_) (fun hge => ?_)
  · have hlt:k<xs.length:=by simp at hlt;omega
    have hk:xs[k]? = some xs[k]:=List.getElem?_eq_getElem hlt
    refine JM ha ⟨by omega,by omega,QV (x:=xs[k]) (by simpa using (hc.ext he).nd hk) ?_⟩
    refine AnW fun w2 e2 => ?_
    refine JE (fun hb => ?_) (fun hb => ?_)
    · refine Rt.mk (h:=QC .i64) (k:Int) (c2 k hlt hall (fun x hx => ?_) w2 (he.trans e2))
      rw[hk] at hx;cases hx
      simpa using hb
    · rw[ZS (n:=xs.length) (by omega) (by omega) (by omega)]
      refine hag (m - 1) ((k:Int)+1) w2 (by omega) ⟨k+1,by omega,by omega,he.trans e2,fun x hx => ?_⟩
      rw[List.take_succ_eq_append_getElem hlt] at hx
      rcases List.mem_append.1 hx with hx | hx
      · exact hall x hx
      · rw[List.mem_singleton] at hx
        subst hx
        simpa using hb
  · have hge:k=xs.length:=by simp at hge;omega
    rw[hge,List.take_length] at hall
    exact Rt.mk (h:=QC .i64) (-1:Int) (c1 hall w1 he)
section
variable{B:Nat}{X:Xt B}{w:World}{l:List En}
theorem Mz.unrow{e sz:Nat}{s:Sl}{cs:List Value}(h:Mz B X w (.row e sz s cs :: l)){p:Addr}(hp:s.a=some p) :
    ∃ (g:Nat) (cur:Array Value),p=⟨g,0,none⟩∧s.n≤s.c∧cur.size=s.c * sz∧cur.toList.take (s.n * sz)=cs∧Mz B X w (.box g (.cells cur e) :: l):=by
  have ho:Own w B e sz s cs:=h.ok (e:=.row e sz s cs) (by simp)
  obtain⟨h1,h2⟩:=ho
  rcases h2 with⟨hv,_⟩ | ⟨g,cap,cur,hv,hb,hg,hle,hm,hc,ht⟩
  · simp only[Sl.v,Value.slice.injEq] at hv
    rw[hv.1] at hp;cases hp
  · simp only[Sl.v,Value.slice.injEq] at hv
    rw[hv.1] at hp
    simp only[Option.some.injEq] at hp
    refine⟨g,cur,hp.symm,by rw[hv.2.2];exact hle,by rw[hv.2.2];exact hc,ht,?_⟩
    obtain⟨I,hmx,hx⟩:=h
    obtain⟨h3,_⟩:=hmx.turn (e':=.box g (.cells cur e)) (D:=fun _=>False) (Fr.refl _ w) nofun ⟨hg,hb⟩ fun i hi=>by
      simp only[En.has] at hi ⊢
      subst hi
      exact .inl hv.1
    exact⟨I,h3,hx⟩
end
theorem Av8{cur:Array Value}{ys:List JA}{n i:Nat}{x:JA}(h:cur.toList.take (n * 6)=VM ys)(hys:ys.length=n)(hs:n * 6≤cur.size)(hi:i<n) :
    (ZI cur (i * 6) x.cells.toList).toList.take (n * 6)=VM (ys.set i x):=by
  have h6:x.cells.toList.length=6:=rfl
  apply List.ext_getElem?
  intro j
  have hx:i<ys.length:=by omega
  have hset:(ys.set i x)[i]? = some x:=by simp[hx]
  rw[List.getElem?_take]
  by_cases hj:j<n * 6
  · rw[if_pos hj,Array.getElem?_toList,BK _ _ _ _ (by rw[h6];omega)]
    have hq:j / 6<n:=by omega
    have hj2:j=j / 6 * 6+j % 6:=by omega
    by_cases hin:i * 6≤j∧j<i * 6+x.cells.toList.length
    · rw[if_pos hin]
      have hji:j / 6=i:=by omega
      have hlt:j - i * 6<x.cells.toList.length:=by omega
      have:=Abx hset (j - i * 6) _ (List.getElem?_eq_getElem hlt)
      rw[show i * 6+(j - i * 6)=j by omega] at this
      rw[this,List.getElem?_eq_getElem hlt]
    · rw[if_neg hin]
      have hne:i≠j / 6:=by omega
      have hy:ys[j / 6]? = some ys[j / 6]:=List.getElem?_eq_getElem (by omega)
      have hy':(ys.set i x)[j / 6]? = some ys[j / 6]:=by rw[List.getElem?_set_ne hne,hy]
      have h66:(ys[j / 6]).cells.toList.length=6:=rfl
      have hlt:j % 6<(ys[j / 6]).cells.toList.length:=by omega
      have e1:=Abx hy (j % 6) _ (List.getElem?_eq_getElem hlt)
      have e2:=Abx hy' (j % 6) _ (List.getElem?_eq_getElem hlt)
      rw[← hj2] at e1 e2
      rw[e2,← e1,← h,List.getElem?_take,if_pos hj,Array.getElem?_toList]
  · rw[if_neg hj]
    symm
    apply List.getElem?_eq_none
    rw[AeM,List.length_set];omega
theorem Aua(w:World):(zeroValue 27).run PP w = .ok (.agg #[.int .i64 0,.int .i64 0,.string (⟨#[]⟩:ByteArray),.bool false,.slice none 0 0,.slice none 0 0]) w:=by
  simp[zeroValue,Tryz.t27]
theorem Arn{w:World}{g i n c:Nat}{cur:Array Value}(hb:w.heap[g]? = some (.cells cur 27 (0,0)))(hi:0<n)(hs:i * 6+n * 6≤cur.size){K:Unit→World→Prop}
    (k:∀ zs w',zs.length=n * 6→HZ w g (.cells (ZI cur (i * 6) zs) 27) w'→K () w'):rn (Builtin.clear_ #[25] 0 #[.slice (some ⟨g,i * 6,none⟩) n c]) QK K w:=by
  let z:Array Value:=#[.int .i64 0,.int .i64 0,.string (⟨#[]⟩:ByteArray),.bool false,.slice none 0 0,.slice none 0 0]
  have hl:(Builtin.zeroCells z n).toList.length=n * 6:=by simp[Builtin.zeroCells,z]
  have h1:∀ u∈(Builtin.zeroCells z n).toList,MH u=true:=by
    intro u hu
    simp only[Builtin.zeroCells,Array.toList_map,List.mem_map] at hu
    obtain⟨j,_,rfl⟩:=hu
    have h6:j % z.size<6:=Nat.mod_lt _ (by decide)
    generalize j % z.size=q at h6
    match q,h6 with
    | 0,_=>rfl
    | 1,_=>rfl
    | 2,_=>rfl
    | 3,_=>rfl
    | 4,_=>rfl
    | 5,_=>rfl
  have hst:=WT (P:=PP) (b:=g) (o:=i * 6) (t:=27) (Builtin.zeroCells z n).toList 0 cur w hb (by rw[hl];omega) h1
  refine YZ (h:=QK) () ?_ (k (Builtin.zeroCells z n).toList _ hl rfl)
  obtain⟨m,rfl⟩:∃ m,n=m+1:=⟨n - 1,by omega⟩
  have hz:(zeroValue 27).run PP w = .ok (.agg z) w:=Aua w
  have hc:(Value.agg z).cells=z:=rfl
  simp[Builtin.clear_,run_underlying NP.1,hz,hc,hst]
  rfl
section
variable{e:We}{r:Fz}{w:World}{a:WA}{L:List En}
theorem Alr{s:Sl}{xs:List JA}{g:Nat}{cur:Array Value}(hn:s.n=xs.length)(hlen:xs.length≤2147483648)(ha:s.a=some ⟨g,0,none⟩)(hnc:s.n≤s.c)(hcs:cur.size=s.c * 6)(hcur:cur.toList.take (s.n * 6)=VM xs)
    (h:WMr e r w a (.box g (.cells cur 27) :: L)) {K:Sl→World→Prop}
    (c:∀ (i:Nat) (cur':Array Value) (w':World) (L':List En) (sl:Sl),sl.a=some ⟨g,0,none⟩→sl.n=i→(xs.filter fun x=>x.Kind==52).length=i→(∃ zs,cur'.toList=VM (xs.filter fun x=>x.Kind==52)++zs)→WMr e r w' a (.box g (.cells cur' 27) :: (L'++L))→K sl w') :
    XM s ⟨51,#[]⟩ K w:=by
  refine VP _ _ _ _ ?_
  unfold XN
  have YV:∀ {w:World} {cur:Array Value} {ys:List JA} {L:List En},WMr e r w a (.box g (.cells cur 27) :: L)→cur.toList.take (s.n * 6)=VM ys→JD w ⟨g,0,none⟩ (VM ys):=by
    intro w cur ys L h hc i v hi
    refine h.cells me0 i v ?_
    rw[← hc,List.getElem?_take] at hi
    split at hi
    · exact hi
    · cases hi
  refine AmH hn hlen ha (YV h hcur) (fun hall w1 e1 => ?_) (fun i0 hi0 hall hno w1 e1 => ?_)
  · refine VF rfl (Rt.mk (h:=hSl) s (c s.n cur w1 [] s ha rfl ?_ ?_ (h.ext e1)))
    · rw[List.filter_eq_self.2 fun x hx=>by simpa using hall x hx,hn]
    · rw[List.filter_eq_self.2 fun x hx=>by simpa using hall x hx,← hcur]
      exact⟨_,(List.take_append_drop _ _).symm⟩
  · refine ZH (by simp<;>omega) ?_
    rw[ZS (n:=xs.length) (by omega) (by omega) (by omega)]
    have h:=h.ext e1
    have hfi:(xs.take (i0+1)).filter (fun x=>x.Kind==52)=xs.take i0:=by
      rw[List.take_succ_eq_append_getElem hi0,List.filter_append,List.filter_eq_self.2 fun x hx=>by simpa using hall x hx]
      have:=hno _ (List.getElem?_eq_getElem hi0)
      have:((xs[i0]).Kind==52)=false:=by simpa using this
      simp[this]
    refine YE (fun m (ij:Int×Int) w'=>∃ (i j:Nat) (ys:List JA) (cur':Array Value) (L':List En),ij=((i:Int),(j:Int))∧m+j=xs.length∧i<j∧j≤xs.length∧WMr e r w' a (.box g (.cells cur' 27) :: (L'++L))∧cur'.size=s.c * 6∧cur'.toList.take (s.n * 6)=VM ys∧ys.length=xs.length∧ys.take i=(xs.take j).filter (fun x=>x.Kind==52)∧ys.drop j=xs.drop j) (xs.length - (i0+1)) ((i0:Int),(i0:Int)+1) rfl
      ⟨i0,i0+1,xs,cur,[],by simp,by omega,by omega,by omega,h,hcs,hcur,rfl,hfi.symm,rfl⟩ ?_
    clear h
    rintro m ij w2 ⟨i,j,ys,cur',L',rfl,hm,hij,hj,h,hcs',hcur',hys,htk,hdr⟩ again hag
    dsimp only
    refine JE (fun hlt => ?_) (fun hge => ?_)
    · have hlt:j<xs.length:=by simp at hlt;omega
      have hxj:xs[j]? = some xs[j]:=List.getElem?_eq_getElem hlt
      have hyj:ys[j]? = some xs[j]:=by
        have h1:(ys.drop j)[0]? = (xs.drop j)[0]?:=by rw[hdr]
        rw[List.getElem?_drop,List.getElem?_drop] at h1
        simpa [hxj] using h1
      refine JM ha ⟨by omega,by omega,QV (x:=xs[j]) (by simpa using (YV h hcur').nd hyj) ?_⟩
      refine h.bx fun bv w h => ?_
      have hbv:w.heap[bv]? = some (.cells #[.int .i64 0,.int .i64 0,.string (⟨#[]⟩:ByteArray),.bool false,.slice none 0 0,.slice none 0 0] 27 (0,0)):=h.1.heap (List.mem_append_right _ me0)
      refine XH hbv (Nat.le_of_eq rfl) fun w hset => ?_
      rw[QH (by rfl)] at hset
      replace h:WMr e r w a (.box bv (.cells (xs[j]).cells 27) :: .box g (.cells cur' 27) :: (L'++L)):=h.set (k:=0) rfl hset
      refine QV (x:=xs[j]) (h.cells me0) (AnW fun w3 e3 => ?_)
      replace h:=h.ext e3
      have hdrop:∀ zs:List JA,zs.drop j=xs.drop j→zs.drop (j+1)=xs.drop (j+1):=by
        intro zs hz
        rw[← List.drop_drop,← List.drop_drop,hz]
      have htake:(xs.take (j+1)).filter (fun x=>x.Kind==52)=(xs.take j).filter (fun x=>x.Kind==52)++if (xs[j]).Kind==52 then [xs[j]] else []:=by
        rw[List.take_succ_eq_append_getElem hlt,List.filter_append]
        congr 1
        rw[List.filter_cons];rfl
      refine JE (fun hb => ?_) (fun hb => ?_)
      · have hb:(xs[j]).Kind=52:=by simpa using hb
        refine QV (x:=xs[j]) (h.cells me0) (JM ha ⟨by omega,by omega,?_⟩)
        have hgb:w3.heap[g]? = some (.cells cur' 27 (0,0)):=h.1.heap (List.mem_append_right _ me1)
        have hcl:(xs[j]).cells.size=6:=rfl
        simp only[Int.toNat_natCast,GQ,Nat.zero_add]
        refine XH hgb (by rw[hcs'];omega) fun w4 hset4 => ?_
        replace h:=h.set (k:=1) rfl hset4
        have h':WMr e r w4 a (.box g (.cells (ZI cur' (i * 6) (xs[j]).cells.toList) 27) :: (.box bv (.cells (xs[j]).cells 27) :: L'++L)):=h.perm (.swap _ _ _)
        rw[ZS (n:=xs.length) (by omega) (by omega) (by omega),ZS (n:=xs.length) (by omega) (by omega) (by omega)]
        refine hag (m - 1) ((i:Int)+1,(j:Int)+1) w4 (by omega) ⟨i+1,j+1,ys.set i xs[j],_,_,by simp,by omega,by omega,by omega,h',by rw[NZ];exact hcs',?_,by rw[List.length_set];exact hys,?_,?_⟩
        · exact Av8 hcur' (by omega) (by rw[hcs'];exact Nat.mul_le_mul_right 6 hnc) (by omega)
        · rw[htake,if_pos (by simpa using hb),← htk]
          have hil:i<(ys.set i xs[j]).length:=by rw[List.length_set];omega
          rw[List.take_succ_eq_append_getElem hil,List.getElem_set_self,List.take_set_of_le (Nat.le_refl _)]
        · rw[List.drop_set_of_lt (by omega)]
          exact hdrop ys hdr
      · have hb:((xs[j]).Kind==52)=false:=by
          cases hq:(xs[j]).Kind==52 with
          | false=>rfl
          | true=>simp only[beq_iff_eq] at hq;rw[hq] at hb;cases hb
        rw[ZS (n:=xs.length) (by omega) (by omega) (by omega)]
        refine hag (m - 1) ((i:Int),(j:Int)+1) w3 (by omega) ⟨i,j+1,ys,cur',.box bv (.cells (xs[j]).cells 27) :: L',by simp,by omega,by omega,by omega,h.perm (.swap _ _ _),hcs',hcur',hys,?_,hdrop ys hdr⟩
        rw[htake,hb,htk]
        simp
    · have hge:j=xs.length:=by simp at hge;omega
      subst hge
      rw[List.take_length] at htk
      refine Ag7 NP (by omega) (by omega) ?_
      have hsc:s.c≠i:=by omega
      have hfrom:(s.from_ (i:Int).toNat 6)=⟨some ⟨g,i * 6,none⟩,s.n - i,s.c - i⟩:=by
        unfold Sl.from_
        rw[Int.toNat_natCast,if_neg hsc,ha]
        simp only[Option.map_some,GQ,Nat.zero_add]
      rw[hfrom]
      have hgb:w2.heap[g]? = some (.cells cur' 27 (0,0)):=h.1.heap (List.mem_append_right _ me0)
      refine Arn hgb (by simp only;omega) (by rw[hcs'];simp only;omega) fun zs w3 hzs hset => ?_
      replace hzs:zs.length=(s.n - i) * 6:=hzs
      replace h:=h.set (k:=0) rfl hset
      refine ApY NP (by omega) (by omega) ?_
      have hfl:(xs.filter fun x=>x.Kind==52).length=i:=by rw[← htk,List.length_take];omega
      refine Rt.mk (h:=hSl) (s.to_ (i:Int).toNat) (c i _ w3 L' _ ha (by unfold Sl.to_;simp) hfl ?_ h)
      refine⟨(ZI cur' (i * 6) zs).toList.drop (i * 6),?_⟩
      rw[← htk]
      have h2:VM (ys.take i)=(ZI cur' (i * 6) zs).toList.take (i * 6):=by
        apply List.ext_getElem?
        intro q
        rw[List.getElem?_take]
        by_cases hq:q<i * 6
        · rw[if_pos hq,Array.getElem?_toList (xs:=ZI cur' (i * 6) zs),BK _ _ _ _ (by rw[hzs,hcs'];omega),if_neg (by omega)]
          have hy:ys[q / 6]? = some ys[q / 6]:=List.getElem?_eq_getElem (by omega)
          have hy':(ys.take i)[q / 6]? = some ys[q / 6]:=by rw[List.getElem?_take,if_pos (by omega),hy]
          have h66:(ys[q / 6]).cells.toList.length=6:=rfl
          have hlt:q % 6<(ys[q / 6]).cells.toList.length:=by omega
          have e1:=Abx hy (q % 6) _ (List.getElem?_eq_getElem hlt)
          have e2:=Abx hy' (q % 6) _ (List.getElem?_eq_getElem hlt)
          rw[show q / 6 * 6+q % 6=q by omega] at e1 e2
          rw[e2,← e1,← hcur',List.getElem?_take,if_pos (by omega),Array.getElem?_toList (xs:=cur')]
        · rw[if_neg hq]
          apply List.getElem?_eq_none
          rw[AeM,List.length_take];omega
      rw[h2,List.take_append_drop]
end
theorem HS.vals{w:World}{B:Nat}{ks:List Nd}{s:Sl}(h:HS w B ks s):∃ xs:List JA,xs.length=ks.length∧(∀ (i:Nat) (k:Nd) (x:JA),ks[i]? = some k→xs[i]? = some x→Rep w B k x)∧∀ p,s.a=some p→JD w p (VM xs):=by
  have ho:=h.2.2.2
  clear h
  generalize s.a=p at ho
  induction ks generalizing p with
  | nil=>exact⟨[],rfl,by simp,fun p _ i v hi=>by simp[VM] at hi⟩
  | cons k r ih=>
    unfold IS at ho
    obtain⟨a,rfl,_,⟨x,hc,hx⟩,hr⟩:=ho
    obtain⟨xs,h1,h2,h3⟩:=ih _ hr
    refine⟨x :: xs,by simp[h1],fun i k' x' hk hx' => ?_,fun p hp => ?_⟩
    · cases i with
      | zero=>simp at hk hx';subst hk hx';exact hx
      | succ i=>exact h2 i k' x' (by simpa using hk) (by simpa using hx')
    · simp only[Option.some.injEq] at hp
      subst hp
      have h3:=h3 _ rfl
      intro i v hi
      have hf:VM (x :: xs)=x.cells.toList++VM xs:=rfl
      have h6:x.cells.toList.length=6:=rfl
      rw[hf] at hi
      by_cases hlt:i<6
      · rw[List.getElem?_append_left (by omega)] at hi
        exact hc i v hi
      · rw[List.getElem?_append_right (by omega),h6] at hi
        have:=h3 _ _ hi
        rw[II,show 6+(i - 6)=i by omega] at this
        exact this
theorem AiK{w:World}{B:Nat}:∀ {ks:List Nd} {xs:List JA},xs.length=ks.length→(∀ (i:Nat) (k:Nd) (x:JA),ks[i]? = some k→xs[i]? = some x→Rep w B k x)→
    (xs.filter fun x=>x.Kind==52).length=(ks.filter fun k=>k.kind==52).length∧∀ (i:Nat) (k:Nd) (x:JA),(ks.filter fun k=>k.kind==52)[i]? = some k→(xs.filter fun x=>x.Kind==52)[i]? = some x→Rep w B k x
  | [],[],_,_=>⟨rfl,by simp⟩
  | [],x :: xs,h,_=>by simp at h
  | k :: ks,[],h,_=>by simp at h
  | k :: ks,x :: xs,h,hr=>by
    have hkx:=hr 0 k x rfl rfl
    obtain⟨h1,h2⟩:=AiK (ks:=ks) (xs:=xs) (by simpa using h) fun i k' x' hk hx=>hr (i+1) k' x' (by simpa using hk) (by simpa using hx)
    have hkk:x.Kind=k.kind:=hkx.kind
    simp only[List.filter_cons,hkk]
    cases hb:k.kind==52 with
    | false=>simpa using ⟨h1,h2⟩
    | true=>
      simp only[if_true,List.length_cons,h1]
      refine⟨trivial,fun i k' x' hk hx => ?_⟩
      cases i with
      | zero=>simp at hk hx;subst hk hx;exact hkx
      | succ i=>exact h2 i k' x' (by simpa using hk) (by simpa using hx)
theorem AvC(e:We):Apn e:=by
  intro r0 r a0 a L k p w n x K g hx hwt c
  have hk:=hx.kids
  have hkl:=Nd.wts_length n.kids
  have hwe:=n.wt_eq
  obtain⟨hn,hnc,hnil,hro⟩:=id hk
  refine FI _ _ _ ?_
  unfold HG
  refine YZ (h:=JS) x.Kids.a.isNone (As8 x.Kids) ?_
  refine JE (fun hb => ?_) (fun hb => ?_)
  · have ha:x.Kids.a=none:=by simpa using hb
    have hc0:=hnil ha
    have hks:n.kids = []:=List.eq_nil_of_length_eq_zero (by omega)
    refine Rt.mk (h:=hSl) ⟨none,0,0⟩ ?_
    refine VP _ _ _ _ ?_
    unfold XN
    refine XC _ _ _ _ ?_
    unfold YQ
    refine YE (fun m (i:Int) w'=>i=0∧w'=w) 0 (0:Int) rfl ⟨rfl,rfl⟩ ?_
    rintro m i w1 ⟨rfl,rfl⟩ again hag
    refine ZH (by simp) (Rt.mk (h:=QC .i64) (-1:Int) (VF rfl (Rt.mk (h:=hSl) ⟨none,0,0⟩ ?_)))
    rw[hks] at c
    exact g.twice (ks:=[]) ⟨rfl,fun w a l' h i k hk=>by simp at hk⟩ (by simp) fun a' w' g=>c a' w' g
  · obtain⟨xs,hxl,hxr,hxc⟩:=HS.vals hk
    obtain⟨q,ha⟩:∃ q,x.Kids.a=some q:=by
      cases hq:x.Kids.a with
      | none=>rw[hq] at hb;cases hb
      | some q=>exact⟨q,rfl⟩
    refine g.bx fun b2 w g => ?_
    -- a box of no cells is an own row
    have hz:Mz e.w0.heap.size (XW e.w0 r) w (.box b2 (.cells #[] 27) :: (a.en e.bw e.bl++L)):=g.h.1.perm (FK _ _ _).symm
    have hz:=hz.row (sz:=6) (n:=0) rfl (by omega)
    have hsrc:OQ w x.Kids (VM xs):=⟨fun h=>(by rw[ha] at h;cases h),fun p hp=>(hxc p hp).ext g.h.base⟩
    have hone:∀ u∈VM xs,MH u=true:=by
      intro u hu
      unfold VM at hu
      obtain⟨y,_,hy⟩:=List.mem_flatMap.1 hu
      simp only[JA.cells,List.mem_cons,List.not_mem_nil,or_false] at hy
      rcases hy with rfl | rfl | rfl | rfl | rfl | rfl<;>rfl
    refine hz.app NP (s:=⟨some ⟨b2,0,none⟩,0,0⟩) hsrc (by rw[AeM,hxl,hn]) hone (by simp only;omega) (by decide) fun s' w1 hs' hz1 => ?_
    have hs'n:s'.n=xs.length:=by rw[hs',hxl,hn];simp
    refine Rt.mk (h:=hSl) s' ?_
    -- the copy
    cases hsa:s'.a with
    | none=>
      -- nothing was copied
      have ho:=(hz1.ok (e:=.row 27 6 s' ([] ++ VM xs)) (by simp))
      have ho:Own w1 e.w0.heap.size 27 6 s' ([] ++ VM xs):=ho
      have h0:=(ho.cells.1 hsa).1
      have hks:n.kids = []:=List.eq_nil_of_length_eq_zero (by omega)
      have g1:Gw e r0 a0 L k p r a w1:=⟨⟨hz1.sub (List.sublist_cons_self _ _),g.h.2⟩,g.hr,g.le,g.er,g.b⟩
      refine VP _ _ _ _ ?_
      unfold XN
      refine XC _ _ _ _ ?_
      unfold YQ
      refine YE (fun m (i:Int) w'=>i=0∧w'=w1) 0 (0:Int) rfl ⟨rfl,rfl⟩ ?_
      rintro m i w2 ⟨rfl,rfl⟩ again hag
      refine ZH (by simp[h0]) (Rt.mk (h:=QC .i64) (-1:Int) (VF rfl (Rt.mk (h:=hSl) s' ?_)))
      rw[hks] at c
      exact g1.twice (ks:=[]) ⟨by rw[h0];rfl,fun w a l' h i k hk=>by simp at hk⟩ (by simp) fun a' w' g=>c a' w' g
    | some q'=>
      obtain⟨gb,cur,rfl,hsc,hcs,htk,hz2⟩:=hz1.unrow hsa
      have g2:WMr e r w1 a (.box gb (.cells cur 27) :: L):=⟨hz2.perm (FK _ _ _),g.h.2⟩
      refine Alr hs'n (by omega) hsa hsc hcs (by simpa using htk) g2 fun i cur' w3 L' sl hsla hsln hfl ⟨zs,hcur'⟩ h3 => ?_
      obtain⟨hf1,hf2⟩:=AiK hxl hxr
      have g3:Gw e r0 a0 (.box gb (.cells cur' 27) :: (L'++L)) k p r a w3:=⟨h3,g.hr,g.le,g.er,g.b⟩
      have hle:=List.length_filter_le (fun k:Nd=>k.kind==52) n.kids
      refine g3.twice (ks:=n.kids.filter fun k=>k.kind==52) ⟨by omega,fun w a l' h j k hk => ?_⟩ (by omega) fun a' w' g=>c a' w' (g.sub ((List.sublist_append_right _ _).trans (List.sublist_cons_self _ _)))
      have hj:=(List.getElem?_eq_some_iff.1 hk).1
      have hxj:(xs.filter fun x=>x.Kind==52)[j]? = some ((xs.filter fun x=>x.Kind==52)[j]'(by omega)):=List.getElem?_eq_getElem (by omega)
      have hrep:=hf2 j k _ hk hxj
      refine⟨⟨gb,0,none⟩,_,hsla,?_,hrep.at_,hrep.text⟩
      have hcc:=h.cells (b:=gb) (cs:=cur') (t:=27) (List.mem_append_right _ me0)
      have hcc2:JD w ⟨gb,0,none⟩ (VM (xs.filter fun x=>x.Kind==52)):=fun i v hi=>hcc i v (by
        rw[hcur',List.getElem?_append_left (List.getElem?_eq_some_iff.1 hi).1];exact hi)
      exact hcc2.nd hxj
end Go.Proofs.YtjiagmjfnbljjaaGreatDoor
end
