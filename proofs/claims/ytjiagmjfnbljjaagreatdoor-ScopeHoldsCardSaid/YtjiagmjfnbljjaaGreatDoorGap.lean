/- Lemmas for the statement proved in the last of these texts: part 16 of 25. Conditions: none. -/
import Derived.Test.YtjiagmjfnbljjaaGreatDoorGao
import Derived.Laws.OwnMore
section
namespace Go.Proofs.YtjiagmjfnbljjaaGreatDoor
open Go
set_option maxHeartbeats 4000000
set_option linter.unusedVariables false
set_option linter.unusedSimpArgs false
def AaK(m:List Int):Nat→Nat
  | 0=>0
  | n+1=>if m.getD n 0==0 then AaK m n else n+1
def Aad(m:List Int):List Int:=m.take (AaK m m.length)
def AaE:List Int→Int→List Int
  | [],c=>[c % 4294967296]
  | x :: r,c=>(c+x) % 4294967296 :: AaE r ((c+x) / 4294967296)
def KK:List Int→Int→List Int
  | [],c=>[c]
  | x :: r,c=>(x * 10+c) % 4294967296 :: KK r ((x * 10+c) / 4294967296)
def W32(m:List Int):Prop:=∀ v∈m,0≤v∧v<4294967296
theorem Ahr(m:List Int):∀ n,AaK m n≤n
  | 0=>Nat.le_refl _
  | n+1=>by
    unfold AaK
    split
    · have:=Ahr m n;omega
    · exact Nat.le_refl _
theorem Amt(m:List Int):(Aad m).length=AaK m m.length:=by
  unfold Aad
  rw[List.length_take]
  have:=Ahr m m.length
  omega
theorem ApZ(m:List Int)(h:W32 m):W32 (Aad m):=fun v hv=>h v (List.mem_of_mem_take hv)
theorem AoZ(x:Int)(r:List Int)(c:Int):AaE (x :: r) c=(c+x) % 4294967296 :: AaE r ((c+x) / 4294967296):=rfl
theorem Aol(x:Int)(r:List Int)(c:Int):KK (x :: r) c=(x * 10+c) % 4294967296 :: KK r ((x * 10+c) / 4294967296):=rfl
theorem Amm:∀ (m:List Int) (c:Int),(AaE m c).length=m.length+1
  | [],_=>rfl
  | x :: r,c=>by simp[AaE,Amm r]
theorem Ala:∀ (m:List Int) (c:Int),(KK m c).length=m.length+1
  | [],_=>rfl
  | x :: r,c=>by simp[KK,Ala r]
theorem ApP:∀ (m:List Int) (c:Int),W32 m→0≤c→W32 (AaE m c)
  | [],c,_,hc,v,hv=>by
    simp only[AaE,List.mem_singleton] at hv
    omega
  | x :: r,c,h,hc,v,hv=>by
    have hx:=h x (by simp)
    rcases List.mem_cons.1 hv with rfl | hv
    · omega
    · exact ApP r _ (fun v hv=>h v (by simp[hv])) (by omega) v hv
theorem Alb:∀ (m:List Int) (c:Int),W32 m→0≤c→c<10→W32 (KK m c)
  | [],c,_,hc,hc2,v,hv=>by
    simp only[KK,List.mem_singleton] at hv
    omega
  | x :: r,c,h,hc,hc2,v,hv=>by
    have hx:=h x (by simp)
    rcases List.mem_cons.1 hv with rfl | hv
    · omega
    · exact Alb r _ (fun v hv=>h v (by simp[hv])) (by omega) (by omega) v hv
structure Wd(w:World)(s:Sl)(m:List Int):Prop where
  n:s.n=m.length
  c:s.n≤s.c
  src:OQ w s (m.map (.int .u32 ·))
theorem Wd.ext{w w':World}{s:Sl}{m:List Int}(h:Wd w s m)(e:Ext w w'):Wd w' s m:=⟨h.n,h.c,h.src.1,fun a ha=>(h.src.2 a ha).ext e⟩
theorem Wd.get{w:World}{s:Sl}{m:List Int}(h:Wd w s m){i:Nat}(hi:i<m.length):∃ a,s.a=some a∧w.cell? (a.add i)=some (.int .u32 (m.getD i 0)):=by
  cases ha:s.a with
  | none=>have:=h.src.1 ha;have:=h.n;omega
  | some a=>exact⟨a,rfl,h.src.2 a ha i _ (by rw[List.getElem?_map,List.getElem?_eq_getElem hi];simp[List.getD,List.getElem?_eq_getElem hi])⟩
def Nw(w0 w:World)(s:Sl):Prop:=∀ a,s.a=some a→w0.heap.size≤a.block∧a.block<w.heap.size
theorem Own.wd{w:World}{B:Nat}{s:Sl}{m:List Int}(h:Own w B 167 1 s (m.map (.int .u32 ·))):Wd w s m:=by
  have hl:=h.len
  rw[List.length_map] at hl
  refine⟨by omega,?_,h.cells⟩
  rcases h.2 with⟨hv,hn⟩ | ⟨g,cap,cur,hv,hb,hg,hn,hm,hc,ht⟩
  · rw[hn];exact Nat.zero_le _
  · simp only[Sl.v,Value.slice.injEq] at hv
    omega
theorem Own.nw{w0 w:World}{e sz:Nat}{s:Sl}{xs:List Value}(h:Own w w0.heap.size e sz s xs):Nw w0 w s:=by
  intro a ha
  rcases h.2 with⟨hv,hn⟩ | ⟨g,cap,cur,hv,hb,hg,hn,hm,hc,ht⟩
  · simp only[Sl.v,Value.slice.injEq] at hv
    rw[hv.1] at ha;cases ha
  · simp only[Sl.v,Value.slice.injEq] at hv
    rw[hv.1] at ha
    simp only[Option.some.injEq] at ha
    subst ha
    exact⟨hb,ZC hg⟩
theorem Own.put{w:World}{B:Nat}{s:Sl}{xs:List Value}(h:Own w B 167 1 s xs){o:Nat}(ho:o<xs.length){v:Int}{K:World→Prop}(k:∀ w',Own w' B 167 1 s (xs.set o (.int .u32 v))→Fr (fun b=>B≤b) w w'→K w') :
    ∃ a,s.a=some a∧OC (a.add o) v K w:=by
  obtain⟨h1,h2⟩:=h
  rcases h2 with⟨hv,hn⟩ | ⟨g,cap,cur,hv,hb,hg,hn,hm,hc,ht⟩
  · exfalso;rw[hn] at h1;simp at h1;rw[h1] at ho;simp at ho
  · have hv2:=hv
    simp only[Sl.v,Value.slice.injEq] at hv2
    have hxs:xs.length≤cur.size:=by rw[← ht];simp;omega
    refine⟨_,hv2.1,?_⟩
    rw[GQ,Nat.zero_add]
    refine Anf hg (by omega) fun w' hs=>k w' ⟨by simpa using h1,.inr ⟨g,cap,ZI cur o [.int .u32 v],hv,hb,hs.get (ZC hg),hn,hm,by rw[NZ];exact hc,?_⟩⟩ (hs.fr.mono fun i _ hi=>by have hi:i=g:=hi;show B≤i;omega)
    have hp:(ZI cur o [.int .u32 v]).toList=cur.toList.set o (.int .u32 v):=by simp[ZI]
    rw[hp,List.take_set,ht]
theorem FT{x:Int}(h0:0≤x)(h1:x<18446744073709551616):IntKind.u64.wrap x=x:=by
  simp only[IntKind.wrap,IntKind.bits,IntKind.signed]
  first | omega | (simp;omega)
theorem Ahs{x:Int}:IntKind.u32.wrap x=x % 4294967296:=by
  simp only[IntKind.wrap,IntKind.bits,IntKind.signed]
  first | omega | (simp;done) | (simp;omega)
theorem Aob{x:Int}{K:Int→World→Prop}{w:World}(k:K (x / 4294967296) w):bin .shr 198 (.int .u64 x) (.int .u64 32) (QC .u64) K w:=by
  have h:Op.shift .shr .u64 x .u64 32=pure (.int .u64 (x / 2 ^ (32:Int).toNat)):=shift_shr_u64 .u64 x 32 (by decide) (by decide)
  have h2:(2:Int) ^ (32:Int).toNat=4294967296:=by decide
  rw[h2] at h
  have:(do eqGuard .shr 198 (.const (.int .u64 x)) (.const (.int .u64 32)) (.int .u64 x) (.int .u64 32);binOp .shr 198 (.int .u64 x) (.int .u64 32):Sem Value).run PP w = .ok (.int .u64 (x / 4294967296)) w:=by
    rw[eqGuard_shr,binOp_shr,h]
    rfl
  exact YZ (h:=QC .u64) (x / 4294967296) this k
section
variable{w:World}{s:Sl}{m:List Int}
theorem Ap0(hm:Wd w s m)(hl:m.length≤2147483648){K:Sl→World→Prop}(c:∀ s' w',Ext w w'→Wd w' s' (Aad m)→Nw w w' s'→K s' w'):GM s K w:=by
  refine AjI _ _ _ ?_
  unfold Aiu
  have hn:=hm.n
  have hnc:=hm.c
  have stop:AaK m m.length=AaK m m.length→LB (Rt hSl K) s (AaK m m.length:Int) w:=by
    intro _
    have hle:=Ahr m m.length
    unfold LB
    refine ApY Ajy (by omega) (by omega) ?_
    have hsrc:OQ w (s.to_ (AaK m m.length:Int).toNat) ((Aad m).map (.int .u32 ·)):=by
      refine⟨fun ha => ?_,fun a ha=>fun i v hi => ?_⟩
      · have:=hm.src.1 ha
        exact⟨by simp[Sl.to_];omega,this.2⟩
      · refine hm.src.2 a ha i v ?_
        unfold Aad at hi
        rw[List.getElem?_map,List.getElem?_take] at hi
        rw[List.getElem?_map]
        split at hi
        · exact hi
        · simp at hi
    have:=Own.nil w w.heap.size 167 1
    have htl:=Amt m
    refine AmK (s:=⟨none,0,0⟩) Ajy this hsrc (by simp[Sl.to_];omega) (fun u hu=>by obtain⟨_,_,rfl⟩:=List.mem_map.1 hu;rfl) (by simp[Sl.to_];omega) (by decide) (Nat.le_refl _) fun s' w' hs' hown hf _ => ?_
    rw[List.nil_append] at hown
    exact Rt.mk (h:=hSl) s' (c s' w' (hf.mono fun i _ h=>by simp at h) hown.wd hown.nw)
  refine YE (fun n i w'=>w'=w∧i=(n:Int)∧n≤m.length∧AaK m m.length=AaK m n) m.length (s.n:Int) (by simp) ⟨rfl,by omega,Nat.le_refl _,rfl⟩ ?_
  rintro n i w' ⟨rfl,rfl,hj,h0⟩ again hag
  refine JE (fun hlt => ?_) (fun hge => ?_)
  · have hpos:0<n:=by simp at hlt;omega
    obtain⟨n,rfl⟩:∃ k,n=k+1:=⟨n - 1,by omega⟩
    have hw:IntKind.i64.wrap (((n+1:Nat):Int) - 1)=(n:Int):=by rw[JY (by omega) (by omega)];omega
    rw[hw]
    obtain⟨a,ha,hc⟩:=hm.get (i:=n) (by omega)
    refine JM ha ⟨by omega,by omega,?_⟩
    have h1:AaK m (n+1)=if m.getD n 0==0 then AaK m n else n+1:=rfl
    refine SS (x:=m.getD n 0) (by simpa using hc) ?_
    refine JE (fun hz => ?_) (fun hz => ?_)
    · rw[h1,if_pos hz] at h0
      exact hag n (n:Int) w' (Nat.lt_succ_self _) ⟨rfl,rfl,by omega,h0⟩
    · rw[h1,if_neg (ne_true_of_eq_false hz)] at h0
      rw[← h0]
      exact stop rfl
  · have:n=0:=by simp at hge;omega
    subst this
    have h1:AaK m m.length=0:=h0
    have:=stop rfl
    rw[h1] at this
    exact this
theorem AtC(hm:Wd w s m)(hw:W32 m)(hl:m.length≤2147483648)(hl0:0<m.length){a:Addr}{d:Int}(ha:JD w a [.int .u32 d])(hd0:0≤d)(hd1:d<10){K:Sl→World→Prop}(c:∀ s' w',Ext w w'→Wd w' s' (AaE m d)→K s' w'):MJ s ⟨some a,1,1⟩ K w:=by
  refine AjH _ _ _ _ ?_
  unfold Ait
  have hn:=hm.n
  have app:∀ {w1:World} {out:Sl} {xs:List Int} {x:Int} {K2:Sl→World→Prop},Ext w w1→Own w1 w.heap.size 167 1 out (xs.map (.int .u32 ·))→xs.length≤2147483648→
      (∀ s' w',Ext w w'→Own w' w.heap.size 167 1 s' ((xs ++ [x % 4294967296]).map (.int .u32 ·))→K2 s' w')→
      bx (.cells #[.int .u32 (IntKind.u32.wrap x)] 167) (fun a w=>rn (Builtin.append_ #[22,22] 22 #[out.v,.slice (some a) 1 1]) hSl K2 w) w1:=by
    intro w1 out xs x K2 e hown hxs k b w2 nb
    have hlen:=hown.len
    rw[List.length_map] at hlen
    have e2:Ext w w2:=e.trans nb.fr
    refine AmK (src:=⟨some b,1,1⟩) (news:=[.int .u32 (x % 4294967296)]) Ajy (hown.ext nb.fr) ⟨nofun,fun a' ha' => ?_⟩ rfl (by simp[MH]) (by simp only;omega) (by decide) e2.size fun s' w3 hs' hown' hf hb => ?_
    · simp only[Option.some.injEq] at ha'
      subst ha'
      have:=nb.cells
      rw[Ahs] at this
      exact this
    · refine k s' w3 (AhZ e2 (hf.mono fun i _ hi => ?_)) ?_
      · exact((hown.ext nb.fr).old hi).1
      · rw[List.map_append];exact hown'
  have hcarry:∀ {c x:Int},0≤c→c<4294967296→0≤x→x<4294967296→IntKind.u64.wrap (c+IntKind.u64.wrap x)=c+x:=by
    intro c x h0 h1 h2 h3
    rw[FT (x:=x) h2 (by omega),FT (by omega) (by omega)]
  refine YE (fun n (x:Sl×Int×Int) w'=>Ext w w'∧∃ (i:Nat) (xs:List Int),x.2.2=i∧n+i=m.length∧xs.length=i∧Own w' w.heap.size 167 1 x.1 (xs.map (.int .u32 ·))∧0≤x.2.1∧x.2.1<10∧((i=0∧x.2.1=0)∨(i≠0∧xs++AaE (m.drop i) x.2.1=AaE m d))) m.length (⟨none,0,0⟩,0,0) rfl ⟨Ext.refl w,0,[],rfl,by omega,rfl,Own.nil _ _ _ _,Int.le_refl 0,by decide,.inl ⟨rfl,rfl⟩⟩ ?_
  rintro n ⟨out,x,y⟩ w1 ⟨e1,i,xs,hy,hni,hxs,hown,hx0,hx1,hinv⟩ again hag
  dsimp only at hy hown hx0 hx1 hinv ⊢
  subst hy
  have hwi:IntKind.i64.wrap ((i:Int)+1)=((i+1:Nat):Int):=by rw[JY (by omega) (by omega)];omega
  refine JE (fun hlt => ?_) (fun hge => ?_)
  · have hlt:i<m.length:=by simp at hlt;omega
    unfold TT
    refine VF (by simp;omega) ?_
    obtain⟨p,hp,YV⟩:=(hm.ext e1).get hlt
    refine JM hp ⟨by omega,by omega,?_⟩
    have hv:=hw (m.getD i 0) (by rw[List.getD,List.getElem?_eq_getElem hlt];exact List.getElem_mem hlt)
    refine SS (x:=m.getD i 0) (by simpa using YV) ?_
    rw[hcarry hx0 (by omega) hv.1 hv.2]
    have hdrop:m.drop i=m.getD i 0 :: m.drop (i+1):=by
      rw[List.drop_eq_getElem_cons hlt,List.getD,List.getElem?_eq_getElem hlt];rfl
    have k2:∀ z:Int,0≤z→z<4294967296+10→(xs++z % 4294967296 :: AaE (m.drop (i+1)) (z / 4294967296)=AaE m d)→LA again out z (i:Int) w1:=by
      intro z hz0 hz1 hz
      unfold LA
      refine app e1 hown (by omega) fun s' w2 e2 hown2 => ?_
      refine Aob ?_
      rw[hwi]
      refine hag (n - 1) (s',z / 4294967296,((i+1:Nat):Int)) w2 (by omega) ⟨e2,i+1,xs ++ [z % 4294967296],rfl,by omega,by simp[hxs],hown2,?_,?_,.inr ⟨by omega,?_⟩⟩
      · simp only;omega
      · simp only;omega
      · simp only;rw[List.append_assoc];exact hz
    unfold TU
    refine JE (fun hb => ?_) (fun hb => ?_)
    · have hi0:i=0:=by simp at hb;omega
      have hx:x=0:=by
        rcases hinv with h | h
        · exact h.2
        · exact absurd hi0 h.1
      subst hi0 hx
      refine JM rfl ⟨by omega,by simp,?_⟩
      refine SS (x:=d) (by simpa [JP] using ha.ext e1 0 (.int .u32 d) rfl) ?_
      have hxs0:xs = []:=List.length_eq_zero_iff.1 hxs
      subst hxs0
      rw[FT (x:=d) hd0 (by omega),FT (by omega) (by omega)]
      refine k2 _ (by omega) (by omega) ?_
      rw[List.nil_append]
      conv=>rhs;rw[← List.drop_zero (l:=m),hdrop]
      rw[AoZ,show(0:Int)+m.getD 0 0+d=d+m.getD 0 0 by omega]
    · have hi0:i≠0:=by simp at hb;omega
      have hz:=(hinv.resolve_left fun h=>hi0 h.1).2
      rw[hdrop] at hz
      exact k2 _ (by omega) (by omega) hz
  · have hi:i=m.length:=by simp at hge;omega
    refine ZH (by simp;omega) ?_
    unfold AdR
    refine app e1 hown (by omega) fun s' w2 e2 hown2=>Rt.mk (h:=hSl) s' (c s' w2 e2 ?_)
    have hz:=(hinv.resolve_left fun h=>by omega).2
    rw[hi,List.drop_length] at hz
    rw[← hz]
    exact hown2.wd
theorem ApS(xs:List Int)(q v:Int)(r:List Int){i:Nat}(h:xs.length=i):((xs++q :: r).map (Value.int .u32 ·)).set i (.int .u32 v)=(xs++v :: r).map (.int .u32 ·):=by
  subst h
  rw[List.map_append,List.map_append,List.set_append_right _ _ (by rw[List.length_map];exact Nat.le_refl _),List.length_map,Nat.sub_self]
  rfl
theorem Asz(hm:Wd w s m)(hw:W32 m)(hl:m.length≤2147483648){a:Addr}(ha:JD w a [.int .u32 10]){K:Sl→World→Prop}(c:∀ s' w',Ext w w'→Wd w' s' (KK m 0)→K s' w'):GU s ⟨some a,1,1⟩ K w:=by
  refine Ai5 _ _ _ _ ?_
  unfold AgO
  have hn:=hm.n
  have hw1:IntKind.i64.wrap ((s.n:Int)+((1:Nat):Int))=((m.length+1:Nat):Int):=by rw[hn,JY (by omega) (by omega)];omega
  dsimp only
  rw[hw1]
  obtain⟨hT,_,ti,z,hi,hs,hb,hz,hzs⟩:=Ajy
  have hz0:z = .int .u32 0:=by
    have:(PP.info? 167).bind (·.zero)=some (.int .u32 0):=by kernel_rfl
    rw[hi] at this
    rw[show(some ti).bind (·.zero)=ti.zero from rfl,hz] at this
    exact Option.some.inj this
  obtain⟨w1,hrun,hown1,hg1⟩:=run_make_full (P:=PP) w w.heap.size 22 167 ti z 1 hT hi hz hs .i64 .i64 (m.length+1) (by rw[hb];omega) (by unfold maxLen;omega) (Nat.le_refl _)
  have e1:Ext w w1:=⟨hg1.os,hg1.tape,hg1.output,hg1.size,fun b o _ hb=>by rw[hg1.block b (ZC hb) (by simp)];exact hb⟩
  refine YZ (h:=hSl) ⟨some ⟨w.heap.size,0,none⟩,m.length+1,m.length+1⟩ hrun ?_
  have hrow:(madeCells z.cells ((m.length+1) * 1)).toList=(List.replicate (m.length+1) (0:Int)).map (.int .u32 ·):=by
    rw[hz0,show(Value.int .u32 0).cells=#[.int .u32 0] from rfl,Nat.mul_one,toList_madeCells_one,List.map_replicate]
  rw[hrow] at hown1
  clear hrow hrun hg1
  generalize hsl:(⟨some ⟨w.heap.size,0,none⟩,m.length+1,m.length+1⟩:Sl)=t
  have htn:t.n=m.length+1:=by rw[← hsl]
  have hown1:Own w1 w.heap.size 167 1 t ((List.replicate (m.length+1) (0:Int)).map (.int .u32 ·)):=by rw[← hsl];exact hown1
  clear hsl
  refine YE (fun n (y:Int) w'=>Ext w w'∧∃ (i:Nat) (xs:List Int) (q:Int),y=i∧n+i=m.length∧xs.length=i∧Own w' w.heap.size 167 1 t ((xs++q :: List.replicate n 0).map (.int .u32 ·))∧0≤q∧q<10∧xs++KK (m.drop i) q=KK m 0) m.length (0:Int) rfl ⟨e1,0,[],0,rfl,by omega,rfl,hown1,Int.le_refl 0,by decide,rfl⟩ ?_
  rintro n y w2 ⟨e2,i,xs,q,rfl,hni,hxs,hown2,hq0,hq1,hinv⟩ again hag
  have hwi:IntKind.i64.wrap ((i:Int)+1)=((i+1:Nat):Int):=by rw[JY (by omega) (by omega)];omega
  refine JE (fun hlt => ?_) (fun hge => ?_)
  · have hlt:i<m.length:=by simp at hlt;omega
    obtain⟨n,rfl⟩:∃ k,n=k+1:=⟨n - 1,by omega⟩
    have hdrop:m.drop i=m.getD i 0 :: m.drop (i+1):=by
      rw[List.drop_eq_getElem_cons hlt,List.getD,List.getElem?_eq_getElem hlt];rfl
    have hv:=hw (m.getD i 0) (by rw[List.getD,List.getElem?_eq_getElem hlt];exact List.getElem_mem hlt)
    generalize m.getD i 0=v at hdrop hv
    have hgv:∀ {w':World},Ext w w'→∃ p,s.a=some p∧w'.cell? (p.add i)=some (.int .u32 v):=by
      intro w' e
      obtain⟨p,hp,hc⟩:=(hm.ext e).get hlt
      refine⟨p,hp,?_⟩
      rw[hc,List.getD,List.getElem?_eq_getElem hlt]
      have:m[i] = v:=by
        rw[List.drop_eq_getElem_cons hlt] at hdrop
        exact(List.cons.inj hdrop).1
      rw[this];rfl
    rw[hdrop,Aol] at hinv
    have hwik:IntKind.i64.wrap ((i:Int)+0)=(i:Int):=by rw[JY (by omega) (by omega)];omega
    -- the inner loop
    refine YE (fun n2 (x:Int×Int) w'=>Ext w w'∧((n2=1∧x=(0,0)∧Own w' w.heap.size 167 1 t ((xs++q :: List.replicate (n+1) 0).map (.int .u32 ·)))∨(n2=0∧x=((v * 10+q) / 4294967296,1)∧Own w' w.heap.size 167 1 t ((xs++(v * 10+q) % 4294967296 :: List.replicate (n+1) 0).map (.int .u32 ·))))) 1 (0,0) rfl ⟨e2,.inl ⟨rfl,rfl,hown2⟩⟩ ?_
    rintro n2 ⟨x1,x2⟩ w3 ⟨e3,⟨rfl,hx,hown3⟩ | ⟨rfl,hx,hown3⟩⟩ again2 hag2
    · simp only[Prod.mk.injEq] at hx
      obtain⟨rfl,rfl⟩:=hx
      refine VF (by simp) ?_
      intro w4 hd
      have e4:=e3.trans hd.fr
      have hown4:=hown3.ext hd.fr
      clear hd hown3 e3
      have hval:IntKind.u64.wrap (IntKind.u64.wrap (0+IntKind.u64.wrap (IntKind.u64.wrap v * IntKind.u64.wrap 10))+IntKind.u64.wrap q)=v * 10+q:=by
        rw[FT (x:=v) hv.1 (by omega),FT (x:=10) (by omega) (by omega),FT (x:=v * 10) (by omega) (by omega),FT (x:=0+v * 10) (by omega) (by omega),FT (x:=q) (by omega) (by omega),FT (by omega) (by omega)]
        omega
      have hput:nn t.a fun a11=>0≤(i:Int)∧(i:Int)<((t.n:Nat):Int)∧OC (a11.add ((i:Int).toNat * 1)) (IntKind.u32.wrap (v * 10+q)) (fun w=>bin .shr 198 (.int .u64 (v * 10+q)) (.int .u64 32) (QC .u64) (fun(i14:Int) w=>again2 [.int .u64 i14,.int .i64 (IntKind.i64.wrap ((0:Int)+1))] w) w) w4:=by
        obtain⟨p,hp,hst⟩:=hown4.put (o:=i) (v:=IntKind.u32.wrap (v * 10+q)) (K:=fun w=>bin .shr 198 (.int .u64 (v * 10+q)) (.int .u64 32) (QC .u64) (fun(i14:Int) w=>again2 [.int .u64 i14,.int .i64 (IntKind.i64.wrap ((0:Int)+1))] w) w) (by simp;omega) fun w5 hown5 hf=>by
          refine Aob ?_
          refine hag2 0 ((v * 10+q) / 4294967296,1) w5 (Nat.lt_succ_self _) ⟨AhZ e4 hf,.inr ⟨rfl,rfl,?_⟩⟩
          have hset:((xs++q :: List.replicate (n+1) 0).map (Value.int .u32 ·)).set i (.int .u32 (IntKind.u32.wrap (v * 10+q)))=(xs++(v * 10+q) % 4294967296 :: List.replicate (n+1) 0).map (.int .u32 ·):=by
            rw[Ahs];exact ApS xs q _ _ hxs
          rw[hset] at hown5
          exact hown5
        refine JM hp ⟨by omega,by omega,?_⟩
        simpa using hst
      refine⟨fun w'=>w'=w4,rfl,?_⟩
      obtain⟨p,hp,hcv⟩:=hgv e4
      refine JM hp ⟨by omega,by omega,?_⟩
      refine AaY (x:=v) (fun w' h=>by subst h;simpa using hcv) ?_
      refine JM rfl ⟨by omega,by simp,?_⟩
      refine AaY (x:=10) (fun w' h=>by subst h;simpa [JP] using ha.ext e4 0 (.int .u32 10) rfl) ?_
      rw[hwik]
      have hcq:∀ a,t.a=some a→w4.cell? (a.add ((i:Int).toNat * 1))=some (.int .u32 q):=by
        intro a hta
        have:=hown4.cells.2 a hta i (.int .u32 q) (by simp[hxs])
        simpa using this
      obtain⟨p2,hp2⟩:∃ p,t.a=some p:=by
        cases hta:t.a with
        | none=>have:=hown4.cells.1 hta;omega
        | some p=>exact⟨p,rfl⟩
      refine JM hp2 ⟨by omega,by omega,?_⟩
      refine AaY (x:=q) (fun w' h=>by subst h;exact hcq _ hp2) ?_
      rw[hval]
      exact⟨⟨rfl,⟨rfl,rfl,hput⟩,rfl,rfl,hput⟩,⟨rfl,⟨rfl,rfl,hput⟩,rfl,rfl,hput⟩,rfl,⟨rfl,rfl,hput⟩,rfl,rfl,hput⟩
    · simp only[Prod.mk.injEq] at hx
      obtain⟨rfl,rfl⟩:=hx
      refine ZH (by simp) ?_
      have hwi1:IntKind.i64.wrap ((i:Int)+((1:Nat):Int))=((i+1:Nat):Int):=by rw[JY (by omega) (by omega)];omega
      rw[hwi1]
      obtain⟨p,hp,hst⟩:=hown3.put (o:=i+1) (v:=IntKind.u32.wrap ((v * 10+q) / 4294967296)) (K:=fun w=>again [.int .i64 (IntKind.i64.wrap ((i:Int)+1))] w) (by simp;omega) fun w5 hown5 hf=>by
        rw[hwi]
        refine hag n ((i+1:Nat):Int) w5 (Nat.lt_succ_self _) ⟨AhZ e3 hf,i+1,xs ++ [(v * 10+q) % 4294967296],(v * 10+q) / 4294967296,rfl,by omega,by simp[hxs],?_,by omega,by omega,by rw[List.append_assoc];exact hinv⟩
        have hset:((xs++(v * 10+q) % 4294967296 :: List.replicate (n+1) 0).map (Value.int .u32 ·)).set (i+1) (.int .u32 (IntKind.u32.wrap ((v * 10+q) / 4294967296)))=((xs ++ [(v * 10+q) % 4294967296])++(v * 10+q) / 4294967296 :: List.replicate n 0).map (.int .u32 ·):=by
          rw[Ahs,show(v * 10+q) / 4294967296 % 4294967296=(v * 10+q) / 4294967296 by omega,List.replicate_succ]
          have:=ApS (xs ++ [(v * 10+q) % 4294967296]) 0 ((v * 10+q) / 4294967296) (List.replicate n 0) (i:=i+1) (by simp[hxs])
          rw[List.append_assoc] at this
          exact this
        rw[hset] at hown5
        exact hown5
      refine JM hp ⟨by omega,by omega,?_⟩
      simpa using hst
  · have hi:i=m.length:=by simp at hge;omega
    obtain rfl:n=0:=by omega
    rw[hi,List.drop_length] at hinv
    refine Rt.mk (h:=hSl) t (c t w2 e2 ?_)
    rw[← hinv]
    exact hown2.wd
theorem AmR{b:Nat}{cs:Array Value}(hb:w.heap[b]? = some (.cells cs 24 (0,0)))(hs:cs.size=2)(x:ZP){R:ZP→World→Prop}(c:∀ w',Fr (fun i=>i=b) w w'→R x w'):ZW ⟨b,0,none⟩ x (fun w=>YK ⟨b,0,none⟩ (fun r=>R r w) w) w:=by
  refine FQ hb (by omega) fun w' h=>AfJ ?_ (c w' h.fr)
  have:=JD.all (h.get (ZC hb))
  rw[QH (by rw[hs];rfl)] at this
  exact this
theorem Wd.fr{D:Nat→Prop}{w':World}(h:Wd w s m)(f:Fr D w w')(hd:∀ a,s.a=some a→¬ D a.block):Wd w' s m:=⟨h.n,h.c,h.src.1,fun a ha=>(h.src.2 a ha).fr f (hd a ha)⟩
theorem SI{w0 w1 w2:World}{b:Nat}(h1:Ext w0 w1)(h2:Fr (fun i=>i=b) w1 w2)(hb:w0.heap.size≤b):Ext w0 w2:=AhZ h1 (h2.mono fun i _ hi=>by have:i=b:=hi;omega)
theorem Atk(hm:Wd w s m)(hl:m.length≤2147483648){neg:Bool}{K:ZP→World→Prop}(c:∀ x w',Ext w w'→x.Neg=(neg && decide (0<(Aad m).length))→Wd w' x.Mag (Aad m)→Nw w w' x.Mag→K x w'):AdE neg s K w:=by
  refine AjG _ _ _ _ ?_
  unfold Ais
  intro a w1 nb
  have e1:=nb.fr
  refine Ap0 (hm.ext e1) hl fun s' w2 e2 hw2 hnw => ?_
  have hget:w2.heap[a.block]? = some (.cells #[.bool false,.slice none 0 0] 24 (0,0)):=Fr.get e2 nb.get nofun
  have ha:=nb.addr
  have hsz:=nb.size
  obtain⟨b,o,g⟩:=a
  simp only[Addr.mk.injEq] at ha
  obtain⟨hb,rfl,rfl⟩:=ha
  have hcs:(#[.bool false,.slice none 0 0]:Array Value).size=2:=rfl
  have fin:∀ x:ZP,x.Neg=(neg && decide (0<(Aad m).length))→x.Mag=s'→ZW ⟨b,0,none⟩ x (fun w=>YK ⟨b,0,none⟩ (fun r3=>Rt EI K (r3.v) w) w) w2:=by
    intro x hx1 hx2
    refine AmR hget hcs x (R:=fun r w=>Rt EI K (r.v) w) ?_
    intro w3 hf
    refine Rt.mk (h:=EI) x ?_
    refine c x w3 (SI (e1.trans e2) hf (Nat.le_of_eq hb.symm)) hx1 ?_ ?_
    · rw[hx2]
      exact hw2.fr hf fun a ha h=>by have:=(hnw a ha).1;have h:a.block=b:=h;omega
    · rw[hx2]
      intro a ha
      have h1:=hnw a ha
      have h2:=hf.size
      exact⟨by omega,by omega⟩
  have hn:=hw2.n
  refine JE (fun hb => ?_) (fun hb => ?_)
  · refine fin ⟨decide ((s'.n:Int) > (0:Int)),s'⟩ ?_ rfl
    subst hb
    show decide ((s'.n:Int) > 0)=_
    rw[hn,Bool.true_and]
    exact decide_eq_decide.2 (by omega)
  · refine fin ⟨false,s'⟩ ?_ rfl
    subst hb
    rfl
end
def Aj2(d:ByteArray):Nat→Nat→Bool
  | 0,_=>true
  | n+1,i=>if ZR d i<48 then false else if ZR d i > 57 then false else Aj2 d n (i+1)
def Ahm(m:List Int)(b:Int):List Int:=Aad (AaE (KK m 0) (b - 48))
def Ake(neg:Bool)(d:ByteArray):Nat→Nat→List Int→(Bool×List Int)×Int
  | 0,_,m=>((neg && decide (0<(Aad m).length),Aad m),0)
  | n+1,i,m=>if (Ahm m (ZR d i)).length > 256 then((false,[]),3) else Ake neg d n (i+1) (Ahm m (ZR d i))
def Anx(neg:Bool)(d:ByteArray):(Bool×List Int)×Int:=
  if d.toList==(⟨#[]⟩:ByteArray).toList then((false,[]),4) else
  if ZR d 0==48 && (neg || decide ((d.size:Int) > 1)) then((false,[]),4) else
  if Aj2 d d.size 0 then Ake neg d d.size 0 [] else((false,[]),4)
def CT(t:ByteArray):(Bool×List Int)×Int:=
  if !(t.toList==(⟨#[]⟩:ByteArray).toList) && ZR t 0==45 then Anx true (t.extract 1 t.size) else Anx false t
def AnX(t:ByteArray):(Bool×List Int)×Bool:=((CT t).1,(CT t).2==0 && ZR t 0 != 45)
theorem Ans(d:ByteArray):∀ n i,Aj2 d n i=true→∀ j,i≤j→j<i+n→48≤ZR d j∧ZR d j≤57
  | 0,i,_,j,h1,h2=>by omega
  | n+1,i,h,j,h1,h2=>by
    unfold Aj2 at h
    split at h
    · cases h
    · split at h
      · cases h
      · by_cases hj:j=i
        · subst hj;omega
        · exact Ans d n (i+1) h j (by omega) (by omega)
structure Ap6(w w':World)(r:Bool×List Int)(x:ZP):Prop where
  e:Ext w w'
  neg:x.Neg=r.1
  wd:Wd w' x.Mag r.2
  nw:Nw w w' x.Mag
  w32:W32 r.2
section
variable{w:World}
theorem AiH(neg:Bool)(d:ByteArray)(hd:d.size≤2147483648){w1:World}{b:Nat}(e1:Ext w w1)(hb:w.heap.size≤b){cs:Array Value}(hget:w1.heap[b]? = some (.cells cs 24 (0,0)))(hcs:cs.size=2){K:MF→World→Prop}
    (c:∀ x w',Ap6 w w' (if Aj2 d d.size 0 then Ake neg d d.size 0 [] else((false,[]),4)).1 x→K ⟨x,(if Aj2 d d.size 0 then Ake neg d d.size 0 [] else((false,[]),4)).2⟩ w'):FV (Rt YJ K) ⟨b,0,none⟩ d neg w1:=by
  unfold FV
  have zero:∀ {w2:World} {n:Int},Ext w1 w2→(∀ x w',Ap6 w w' (false,[]) x→K ⟨x,n⟩ w')→ZW ⟨b,0,none⟩ ⟨false,⟨none,0,0⟩⟩ (fun w=>YK ⟨b,0,none⟩ (fun r17=>Rt YJ K (.tuple #[r17.v,.int .i64 n]) w) w) w2:=by
    intro w2 n e c
    refine AmR (Fr.get e hget nofun) hcs _ (R:=fun r w=>Rt YJ K (.tuple #[r.v,.int .i64 n]) w) ?_
    intro w3 hf
    refine Rt.mk (h:=YJ) ⟨⟨false,⟨none,0,0⟩⟩,n⟩ (c _ _ ⟨SI (e1.trans e) hf hb,rfl,⟨rfl,Nat.le_refl _,⟨fun _=>⟨rfl,rfl⟩,nofun⟩⟩,nofun,nofun⟩)
  refine YE (fun n (y:Int) w'=>w'=w1∧∃ i:Nat,y=i∧n+i=d.size∧Aj2 d n i=Aj2 d d.size 0) d.size (0:Int) rfl ⟨rfl,0,rfl,by omega,rfl⟩ ?_
  rintro n y w' ⟨hw',i,rfl,hni,hall⟩ again hag
  subst w'
  have hwi:IntKind.i64.wrap ((i:Int)+1)=((i+1:Nat):Int):=by rw[JY (by omega) (by omega)];omega
  refine JE (fun hlt => ?_) (fun hge => ?_)
  · have hlt:i<d.size:=by simp at hlt;omega
    obtain⟨n,rfl⟩:∃ k,n=k+1:=⟨n - 1,by omega⟩
    have hs:Aj2 d (n+1) i=if ZR d i<48 then false else if ZR d i > 57 then false else Aj2 d n (i+1):=rfl
    rw[hs] at hall
    refine LH d hlt ?_
    refine JE (fun hb1 => ?_) (fun hb1 => ?_)
    · rw[if_pos (by simpa using hb1)] at hall
      rw[← hall] at c
      exact zero (Ext.refl _) c
    · rw[if_neg (by simpa using hb1)] at hall
      refine LH d hlt ?_
      refine JE (fun hb2 => ?_) (fun hb2 => ?_)
      · rw[if_pos (by simpa using hb2)] at hall
        rw[← hall] at c
        exact zero (Ext.refl _) c
      · rw[if_neg (by simpa using hb2)] at hall
        rw[hwi]
        exact hag n _ _ (Nat.lt_succ_self _) ⟨rfl,i+1,rfl,by omega,hall⟩
  · obtain rfl:n=0:=by simp at hge;omega
    have hall:Aj2 d d.size 0=true:=hall.symm
    rw[if_pos hall] at c
    have hdig:=Ans d d.size 0 hall
    clear hge hwi hag hall hni
    refine YE (fun n (x:Sl×Int) w'=>Ext w1 w'∧∃ (i:Nat) (m:List Int),x.2=i∧n+i=d.size∧Wd w' x.1 m∧W32 m∧m.length≤256∧Ake neg d n i m=Ake neg d d.size 0 []) d.size (⟨none,0,0⟩,(0:Int)) rfl ⟨Ext.refl _,0,[],rfl,by omega,⟨rfl,Nat.le_refl _,⟨fun _=>⟨rfl,rfl⟩,nofun⟩⟩,nofun,by decide,rfl⟩ ?_
    rintro n ⟨s,y⟩ w2 ⟨e2,i,m,hy,hni,hwd,hw32,hm256,hdec⟩ again hag
    dsimp only at hy hwd ⊢
    subst hy
    have hwi:IntKind.i64.wrap ((i:Int)+1)=((i+1:Nat):Int):=by rw[JY (by omega) (by omega)];omega
    refine JE (fun hlt => ?_) (fun hge => ?_)
    · have hlt:i<d.size:=by simp at hlt;omega
      obtain⟨n,rfl⟩:∃ k,n=k+1:=⟨n - 1,by omega⟩
      have hs:Ake neg d (n+1) i m=if (Ahm m (ZR d i)).length > 256 then((false,[]),3) else Ake neg d n (i+1) (Ahm m (ZR d i)):=rfl
      rw[hs] at hdec
      have hr:=hdig i (Nat.zero_le _) (by omega)
      intro w3 hdr
      have e3:=e2.trans hdr.fr
      have hwd3:=hwd.ext hdr.fr
      clear hdr
      refine VQ (h:=QC .u8) (ZR d i) (fun w' _ => ?_) ?_
      · have:=HU (P:=PP) (w:=w') Tryz.underlying9 d i (by omega) (by omega)
        unfold ZR
        rw[dif_pos hlt]
        exact this
      generalize ZR d i=v at hdec hr
      have hv:IntKind.u32.wrap (IntKind.u8.wrap (v - 48))=v - 48:=by rw[AjE (by omega) (by omega),Ahs];omega
      rw[hv]
      have htl:=Ala m 0
      have hpl:=Amm (KK m 0) (v - 48)
      have fin:∀ {l:Sl} {w4:World},Ext w1 w4→Wd w4 l (AaE (KK m 0) (v - 48))→GM l (fun(l27:Sl) w=>br (decide ((l27.n:Int) > (256:Int))) (ZW ⟨b,0,none⟩ ⟨false,⟨none,0,0⟩⟩ (fun w=>YK ⟨b,0,none⟩ (fun r28=>Rt YJ K (.tuple #[r28.v,.int .i64 3]) w) w) w) (again [l27.v,.int .i64 (IntKind.i64.wrap ((i:Int)+1))] w)) w4:=by
        intro l w4 e4 hl
        refine Ap0 hl (by omega) fun l5 w5 e5 hl5 hnw => ?_
        have hn5:=hl5.n
        refine JE (fun hb3 => ?_) (fun hb3 => ?_)
        · have:(Ahm m v).length > 256:=by unfold Ahm;simp at hb3;omega
          rw[if_pos this] at hdec
          rw[← hdec] at c
          exact zero (e4.trans e5) c
        · have:¬ (Ahm m v).length > 256:=by unfold Ahm;simp at hb3;omega
          rw[if_neg this] at hdec
          rw[hwi]
          refine hag n (l5,_) w5 (Nat.lt_succ_self _) ⟨e4.trans e5,i+1,Ahm m v,rfl,by omega,hl5,?_,by omega,hdec⟩
          exact ApZ _ (ApP _ _ (Alb _ _ hw32 (Int.le_refl 0) (by decide)) (by omega))
      have pl:∀ {l:Sl} {w4:World} {a:Addr},Ext w1 w4→Wd w4 l (KK m 0)→JD w4 a [.int .u32 (v - 48)]→MJ l ⟨some a,1,1⟩ (fun l w=>GM l (fun(l27:Sl) w=>br (decide ((l27.n:Int) > (256:Int))) (ZW ⟨b,0,none⟩ ⟨false,⟨none,0,0⟩⟩ (fun w=>YK ⟨b,0,none⟩ (fun r28=>Rt YJ K (.tuple #[r28.v,.int .i64 3]) w) w) w) (again [l27.v,.int .i64 (IntKind.i64.wrap ((i:Int)+1))] w)) w) w4:=fun {l w4 a} e4 hl ha=>AtC hl (Alb _ _ hw32 (Int.le_refl 0) (by decide)) (by omega) (by omega) ha (by omega) (by omega) fun l5 w5 e5 hl5=>fin (e4.trans e5) hl5
      have tm:∀ {w4:World} {a:Addr} {K2:Sl→World→Prop},Ext w3 w4→JD w4 a [.int .u32 10]→(∀ l w5,Ext w4 w5→Wd w5 l (KK m 0)→K2 l w5)→GU s ⟨some a,1,1⟩ K2 w4:=fun {w4 a K2} e4 ha k=>Asz (hwd3.ext e4) hw32 (by omega) ha fun l w5 e5 hl=>k l w5 e5 hl
      -- a box for the digit behind the box for ten
      have two:∀ {w4:World} {a:Addr},Ext w3 w4→JD w4 a [.int .u32 10]→bx (.cells #[.int .u32 (v - 48)] 167) (fun a34 w=>(fun _=>True) w∧GU s ⟨some a,1,1⟩ (fun(l35:Sl) w=>(fun _=>True) w∧MJ l35 ⟨some a34,1,1⟩ (fun l w=>GM l (fun(l27:Sl) w=>br (decide ((l27.n:Int) > (256:Int))) (ZW ⟨b,0,none⟩ ⟨false,⟨none,0,0⟩⟩ (fun w=>YK ⟨b,0,none⟩ (fun r28=>Rt YJ K (.tuple #[r28.v,.int .i64 3]) w) w) w) (again [l27.v,.int .i64 (IntKind.i64.wrap ((i:Int)+1))] w)) w) w) w) w4:=by
        intro w4 a e4 ha a2 w5 n5
        exact⟨trivial,tm (e4.trans n5.fr) (ha.ext n5.fr) fun l w6 e6 hl=>⟨trivial,pl (e3.trans (e4.trans (n5.fr.trans e6))) hl (n5.cells.ext e6)⟩⟩
      have one:∀ {w4:World} {a:Addr},Ext w3 w4→JD w4 a [.int .u32 10]→GU s ⟨some a,1,1⟩ (fun(l24:Sl) w=>(fun _=>True) w∧bx (.cells #[.int .u32 (v - 48)] 167) (fun a25 w=>(fun _=>True) w∧MJ l24 ⟨some a25,1,1⟩ (fun l w=>GM l (fun(l27:Sl) w=>br (decide ((l27.n:Int) > (256:Int))) (ZW ⟨b,0,none⟩ ⟨false,⟨none,0,0⟩⟩ (fun w=>YK ⟨b,0,none⟩ (fun r28=>Rt YJ K (.tuple #[r28.v,.int .i64 3]) w) w) w) (again [l27.v,.int .i64 (IntKind.i64.wrap ((i:Int)+1))] w)) w) w) w) w4:=
        fun {w4 a} e4 ha=>tm e4 ha fun l w5 e5 hl=>⟨trivial,fun a2 w6 n6=>⟨trivial,pl (e3.trans (e4.trans (e5.trans n6.fr))) (hl.ext n6.fr) n6.cells⟩⟩
      refine⟨fun a w4 n4=>⟨trivial,tm n4.fr n4.cells fun l w5 e5 hl=>⟨trivial,trivial,fun a2 w6 n6=>⟨trivial,pl (e3.trans (n4.fr.trans (e5.trans n6.fr))) (hl.ext n6.fr) n6.cells⟩⟩,trivial,one n4.fr n4.cells,two n4.fr n4.cells⟩,trivial,fun a w4 n4=>⟨trivial,one n4.fr n4.cells,two n4.fr n4.cells⟩,fun a2 w4 n4=>⟨trivial,fun a w5 n5=>⟨trivial,tm (n4.fr.trans n5.fr) n5.cells fun l w6 e6 hl=>⟨trivial,pl (e3.trans (n4.fr.trans (n5.fr.trans e6))) hl (n4.cells.ext (n5.fr.trans e6))⟩⟩⟩⟩
    · obtain rfl:n=0:=by simp at hge;omega
      have hdec:((neg && decide (0<(Aad m).length),Aad m),(0:Int))=Ake neg d d.size 0 []:=hdec
      rw[← hdec] at c
      refine Atk hwd (by omega) fun x w3 e3 hneg hx hnw => ?_
      refine AmR (Fr.get (e2.trans e3) hget nofun) hcs x (R:=fun r w=>Rt YJ K (.tuple #[r.v,.int .i64 0]) w) ?_
      intro w4 hf
      have hle:=e1.size
      have hle2:=e2.size
      have hbl:=ZC hget
      refine Rt.mk (h:=YJ) ⟨x,0⟩ (c _ _ ⟨SI (e1.trans (e2.trans e3)) hf hb,hneg,hx.fr hf fun a ha h => ?_,fun a ha => ?_,ApZ _ hw32⟩)
      · have:=(hnw a ha).1
        have h:a.block=b:=h
        omega
      · have h1:=hnw a ha
        have h2:=hf.size
        exact⟨by omega,by omega⟩
theorem Ap7(t:ByteArray)(ht:t.size≤2147483648){K:MF→World→Prop}(c:∀ x w',Ap6 w w' (CT t).1 x→K ⟨x,(CT t).2⟩ w'):Ab6 t K w:=by
  refine Ai4 _ _ _ ?_
  unfold AgN
  intro a w1 nb
  have e1:=nb.fr
  have hget:=nb.get
  have ha:=nb.addr
  have hcs:(#[.bool false,.slice none 0 0]:Array Value).size=2:=rfl
  obtain⟨b,o,g⟩:=a
  simp only[Addr.mk.injEq] at ha
  obtain⟨hb,rfl,rfl⟩:=ha
  have hb:=Nat.le_of_eq hb.symm
  unfold CT at c
  have pos:∀ {d:ByteArray},(d.toList==(⟨#[]⟩:ByteArray).toList)=false→0<d.size:=by
    intro d h
    rcases Nat.eq_zero_or_pos d.size with h0 | h0
    · have:d=⟨#[]⟩:=by
        apply ByteArray.ext
        exact Array.eq_empty_of_size_eq_zero h0
      rw[this] at h;simp at h
    · exact h0
  have k0:∀ (neg:Bool) (d:ByteArray),d.size≤2147483648→(∀ x w',Ap6 w w' (Anx neg d).1 x→K ⟨x,(Anx neg d).2⟩ w')→BM (Rt YJ K) ⟨b,0,none⟩ d neg w1:=by
    intro neg d hd c
    unfold BM
    unfold Anx at c
    have zero:(∀ x w',Ap6 w w' (false,[]) x→K ⟨x,4⟩ w')→ZW ⟨b,0,none⟩ ⟨false,⟨none,0,0⟩⟩ (fun w=>YK ⟨b,0,none⟩ (fun r17=>Rt YJ K (.tuple #[r17.v,.int .i64 4]) w) w) w1:=by
      intro c
      refine AmR hget hcs _ (R:=fun r w=>Rt YJ K (.tuple #[r.v,.int .i64 4]) w) ?_
      intro w3 hf
      refine Rt.mk (h:=YJ) ⟨⟨false,⟨none,0,0⟩⟩,4⟩ (c _ _ ⟨SI e1 hf hb,rfl,⟨rfl,Nat.le_refl _,⟨fun _=>⟨rfl,rfl⟩,nofun⟩⟩,nofun,nofun⟩)
    refine JE (fun hb1 => ?_) (fun hb1 => ?_)
    · rw[if_pos hb1] at c
      exact zero c
    · rw[if_neg (ne_true_of_eq_false hb1)] at c
      refine LH d (pos hb1) ?_
      refine JE (fun hb2 => ?_) (fun hb2 => ?_)
      · refine JE (fun hb3 => ?_) (fun hb3 => ?_)
        · rw[if_pos (by rw[hb2,hb3];rfl)] at c
          exact zero c
        · refine JE (fun hb4 => ?_) (fun hb4 => ?_)
          · rw[if_pos (by rw[hb2,hb4];simp)] at c
            exact zero c
          · rw[if_neg (by rw[hb3,hb4];simp)] at c
            exact AiH neg d hd e1 hb hget hcs c
      · rw[if_neg (by rw[hb2];simp)] at c
        exact AiH neg d hd e1 hb hget hcs c
  refine JE (fun hb1 => ?_) (fun hb1 => ?_)
  · have hpos:=pos (d:=t) (by simpa using hb1)
    refine LH t hpos ?_
    refine JE (fun hb2 => ?_) (fun hb2 => ?_)
    · rw[if_pos (by rw[hb1,hb2];rfl)] at c
      refine YZ (h:=EB) (t.extract 1 t.size) ?_ (k0 true _ ?_ c)
      · have h1:¬ ((t.size:Int)<1):=by omega
        have h2:1≤t.size:=hpos
        simp[Instr.sliceAt,underlying,Tryz.underlying9,Instr.slice,Instr.sliceBounds,Instr.sliceBound,asIntOf]
        rw[if_pos (by omega)]
        rfl
      · rw[HK t hpos (Nat.le_refl _)];omega
    · rw[if_neg (by rw[hb2];simp)] at c
      exact k0 false t ht c
  · rw[if_neg (by rw[hb1];simp)] at c
    exact k0 false t ht c
theorem AqF(t:ByteArray)(ht:t.size≤2147483648){K:GC→World→Prop}(c:∀ x w',Ap6 w w' (AnX t).1 x→K ⟨x,(AnX t).2⟩ w'):OY t K w:=by
  refine Agz _ _ _ ?_
  unfold AdP
  have hcs:(#[.bool false,.slice none 0 0]:Array Value).size=2:=rfl
  intro a w1 n1
  refine Ap7 t ht fun x w2 hr => ?_
  intro a3 w3 n3
  have hget3:=n3.get
  have hget1:w3.heap[a.block]? = some (.cells #[.bool false,.slice none 0 0] 24 (0,0)):=Fr.get (hr.e.trans n3.fr) n1.get nofun
  have e1:=n1.fr
  have ha:=n1.addr
  have ha3:=n3.addr
  have hs1:=n1.size
  have hs3:=n3.size
  obtain⟨b,o,g⟩:=a
  obtain⟨b3,o3,g3⟩:=a3
  simp only[Addr.mk.injEq] at ha ha3
  obtain⟨hb,rfl,rfl⟩:=ha
  obtain⟨hb3,rfl,rfl⟩:=ha3
  have hsz2:=hr.e.size
  have YV:=JD.all hget3
  refine FQ hget3 (Nat.le_of_eq rfl) fun w4 hset => ?_
  intro w5 hd
  have hf4:=hset.fr
  have hc5:JD w5 ⟨b3,0,none⟩ (ZP.cells x).toList:=by
    have:=JD.all (hset.get (ZC hget3))
    rw[QH (by rfl)] at this
    exact this.ext hd.fr
  have hget5:w5.heap[b]? = some (.cells #[.bool false,.slice none 0 0] 24 (0,0)):=Fr.get hd.fr (Fr.get hf4 hget1 (by intro h;have h:b=b3:=h;omega)) nofun
  have ew5:Ext w w5:=(SI (e1.trans (hr.e.trans n3.fr)) hf4 (by show w.heap.size≤b3;omega)).trans hd.fr
  have hwd5:Wd w5 x.Mag (CT t).1.2:=((hr.wd.ext n3.fr).fr hf4 fun a ha h=>by have:=(hr.nw a ha).2;have h:a.block=b3:=h;omega).ext hd.fr
  have hnw5:∀ a,x.Mag.a=some a→w1.heap.size≤a.block∧a.block<w5.heap.size:=fun a ha=>by
    have h1:=hr.nw a ha
    have h2:=n3.fr.size
    have h3:=hf4.size
    have h4:=hd.fr.size
    exact⟨h1.1,by omega⟩
  refine⟨fun w'=>JD w' ⟨b3,0,none⟩ (ZP.cells x).toList,hc5,?_⟩
  refine Akw (x:=x) (fun w' h=>h) ?_
  have fin:∀ v:Bool,v=(AnX t).2→ZW ⟨b,0,none⟩ x (fun w=>JD w ⟨b3,0,none⟩ (ZP.cells x).toList∧YK ⟨b,0,none⟩ (fun r7=>Rt BQ K (.tuple #[r7.v,.bool v]) w) w) w5:=by
    intro v hv
    refine FQ hget5 (Nat.le_of_eq rfl) fun w6 hset6 => ?_
    have hf6:=hset6.fr
    refine⟨hc5.fr hf6 (by intro h;have h:b3=b:=h;omega),?_⟩
    have hc6:=JD.all (hset6.get (ZC hget5))
    rw[QH (by rfl)] at hc6
    refine AfJ hc6 ?_
    refine Rt.mk (h:=BQ) ⟨x,v⟩ ?_
    rw[hv]
    refine c x w6 ⟨SI ew5 hf6 (Nat.le_of_eq hb.symm),hr.neg,hwd5.fr hf6 fun a ha h => ?_,fun a ha => ?_,hr.w32⟩
    · have:=(hnw5 a ha).1;have h:a.block=b:=h;omega
    · have h1:=hnw5 a ha
      have h2:=hf6.size
      exact⟨by omega,by omega⟩
  refine JE (fun hb1 => ?_) (fun hb1 => ?_)
  · have hb1:((CT t).2==0)=true:=hb1
    have hpos:0<t.size:=by
      rcases Nat.eq_zero_or_pos t.size with h0 | h0
      · have:t=⟨#[]⟩:=by
          apply ByteArray.ext
          exact Array.eq_empty_of_size_eq_zero h0
        subst this
        exfalso
        have:(CT ⟨#[]⟩).2=4:=by
          unfold CT Anx
          rw[if_neg (by simp),if_pos (by simp)]
        rw[this] at hb1
        simp at hb1
      · exact h0
    refine VQ (h:=QC .u8) (ZR t 0) (fun w' _ => ?_) ?_
    · have:=HU (P:=PP) (w:=w') Tryz.underlying9 t 0 (by omega) (by omega)
      unfold ZR
      rw[dif_pos hpos]
      exact this
    refine fin _ ?_
    show _=((CT t).2==0 && ZR t 0 != 45)
    rw[hb1,Bool.true_and]
  · refine fin false ?_
    have hb1:((CT t).2==0)=false:=hb1
    show _=((CT t).2==0 && ZR t 0 != 45)
    rw[hb1,Bool.false_and]
theorem Mx.more{B:Nat}{I:Nat→Prop}{w w':World}{l:List En}(h:Mx B I w l)(e:Ext w w'):Mx B (fun i=>I i∨(w.heap.size≤i∧i<w'.heap.size)) w' l:=by
  have h':=h.ext e
  refine⟨h'.ok,fun x hx i hi hI => ?_,h'.dj,fun i hi => ?_,h'.le,fun i hi=>hi.elim (h.ge i) fun hi=>Nat.le_trans h.le hi.1⟩
  · rcases hI with hI | hI
    · exact h.fz x hx i hi hI
    · have:=((h.ok x hx).lt hi).2;omega
  · rcases hi with hi | hi
    · exact h'.lt i hi
    · exact hi.2
theorem Atu:Aq8 AnX:=by
  intro e w s A l r t K h ht c
  refine AqF t ht fun x w' hr=>c _ w' rfl ?_
  obtain⟨⟨xss,r1,hz,I,hm,hx⟩,hi⟩:=h
  refine⟨⟨xss,r1,hz,fun i=>I i∨(w.heap.size≤i∧i<w'.heap.size),hm.more hr.e,?_⟩,hi⟩
  have hi1:∀ i,I i→(I i∨(w.heap.size≤i∧i<w'.heap.size)):=fun i hi=>.inl hi
  have hx':=(XP e.w0 (r1++r)).keep hx (Ext.fr hr.e)
  refine⟨hx'.1,fun q hq => ?_⟩
  have old:∀ q∈r1++r,AA w' (fun i=>I i∨(w.heap.size≤i∧i<w'.heap.size)) q.1 q.2:=fun q hq=>AA.keep (Ext.refl w') (fun _ _ h=>h) hi1 _ _ (hx'.2 q hq)
  rcases List.mem_append.1 hq with hq | hq
  · exact old q (List.mem_append_left _ hq)
  · rcases List.mem_cons.1 hq with rfl | hq
    · unfold AA
      refine⟨rfl,rfl,rfl,hr.neg,⟨hr.wd.n,hr.wd.c,hr.w32,fun ha=>(hr.wd.src.1 ha).2,fun a ha=>⟨fun _=>.inr (hr.nw a ha),hr.wd.src.2 a ha⟩⟩,rfl,Nat.le_refl _,Nat.zero_le _,fun _=>rfl,by unfold OP;trivial⟩
    · exact old q (List.mem_append_right _ hq)
end
end Go.Proofs.YtjiagmjfnbljjaaGreatDoor
end
section
namespace Go.Proofs.YtjiagmjfnbljjaaGreatDoor
open Go
set_option maxHeartbeats 4000000
set_option linter.unusedVariables false
set_option linter.unusedSimpArgs false
theorem Anw(neg:Bool)(d:ByteArray):∀ n i m,m.length≤256→(Ake neg d n i m).1.2.length≤256
  | 0,i,m,h=>by
    show(Aad m).length≤256
    have:=Ahr m m.length
    rw[Amt];omega
  | n+1,i,m,h=>by
    unfold Ake
    split
    · show 0≤256;omega
    · exact Anw neg d n (i+1) _ (by omega)
theorem Anz(neg:Bool)(d:ByteArray):(Anx neg d).1.2.length≤256:=by
  have z:([]:List Int).length≤256:=by decide
  unfold Anx
  split
  · exact z
  · split
    · exact z
    · split
      · exact Anw _ _ _ _ _ z
      · exact z
theorem AnY(t:ByteArray):(AnX t).1.2.length≤300:=by
  unfold AnX CT
  split
  · have:=Anz true (t.extract 1 t.size);simp only;omega
  · have:=Anz false t;simp only;omega
def VV(S:ByteArray):Nd×Int×Int:=
  match AaJ Adu S with
  | none=>(nod 0 0 (⟨#[]⟩:ByteArray) [],0,0)
  | some q=>if q.2.1 != 0 then(nod 0 0 (⟨#[]⟩:ByteArray) [],q.2.1,q.2.2) else
    match Aeq AnX q.1 (64 * q.1.length+128) with
    | none=>(nod 0 0 (⟨#[]⟩:ByteArray) [],0,0)
    | some o=>o
theorem AsD{T:List Tk}{t:Tk}(h:t∈T):t.Text.size≤KR T:=by
  unfold KR
  induction T with
  | nil=>cases h
  | cons x l ih=>
    simp only[List.map_cons,List.sum_cons]
    rcases List.mem_cons.1 h with rfl | h
    · omega
    · have:=ih h;omega
theorem Anq.ext{w w':World}{L:Sl}{T:List Tk}(h:Anq w L T)(e:Ext w w'):Anq w' L T:=
  ⟨h.n,h.len,fun i t hi=>by obtain⟨a,ha,hc⟩:=h.cells i t hi;exact⟨a,ha,hc.ext e⟩⟩
theorem AlO{w:World}{src:Sl}{S:ByteArray}(hS:Adp w src S){K:ZT→World→Prop}
    (hK:∀ x w',Anr w w' (VV S).1 x→K ⟨x,⟨(VV S).2.1,(VV S).2.2⟩⟩ w'):OX src K w:=by
  refine Agy _ _ _ ?_
  unfold AdN
  intro a1 w1 n1 a2 w2 n2
  obtain⟨q,hq,htxt⟩:=AiV AjB Apg S
  refine Ap8 AjB ((hS.ext n1.fr).ext n2.fr) hq fun x3 w3 e3 hx3 htk hlen => ?_
  intro f4 w4 n4
  have ha1:=n1.addr
  have ha2:=n2.addr
  have ha4:=n4.addr
  have hs1:=n1.size
  have hs2:=n2.size
  have hs4:=n4.size
  have hsz3:=e3.size
  have hget1:=n1.get
  have hget2:=n2.get
  have hget4:=n4.get
  obtain⟨b1,o1,g1⟩:=a1
  obtain⟨b2,o2,g2⟩:=a2
  obtain⟨b4,o4,g4⟩:=f4
  simp only[Addr.mk.injEq] at ha1 ha2 ha4
  obtain⟨hb1,rfl,rfl⟩:=ha1
  obtain⟨hb2,rfl,rfl⟩:=ha2
  obtain⟨hb4,rfl,rfl⟩:=ha4
  have ew2:Ext w w2:=n1.fr.trans n2.fr
  refine YH hget4 (Nat.le_of_eq rfl) fun w5 s5 => ?_
  have e35:Ext w3 w5:=SI n4.fr s5.fr (Nat.le_of_eq hb4.symm)
  have ew5:Ext w w5:=ew2.trans (e3.trans e35)
  have hc4:JD w5 ⟨b4,0,none⟩ (QI.cells x3.x1).toList:=by
    have:=JD.all (s5.get (ZC hget4))
    rw[QH (by rfl)] at this
    exact this
  have hz5:=s5.size
  have g1':w5.heap[b1]? = some (.cells #[.int .i64 0,.int .i64 0,.string (⟨#[]⟩:ByteArray),.bool false,.slice none 0 0,.slice none 0 0] 27 (0,0)):=Fr.get e35 (Fr.get e3 (Fr.get n2.fr hget1 nofun) nofun) nofun
  have g2':w5.heap[b2]? = some (.cells #[.int .i64 0,.int .i64 0] 32 (0,0)):=Fr.get e35 (Fr.get e3 hget2 nofun) nofun
  -- the ending
  have fin:∀ {w6:World} {n:Nd} {x:JA} {y:QI} {J:World→Prop→Prop},Ext w5 w6→AA w6 (fun i=>w5.heap.size≤i∧i<w6.heap.size) n x→(∀ w',Anr w w' n x→K ⟨x,y⟩ w')→(∀ w' p,Fr (fun i=>i=b1) w6 w'→p→J w' p)→
      JC ⟨b1,0,none⟩ x (fun w=>J w (ZO ⟨b2,0,none⟩ y (fun w=>JG ⟨b1,0,none⟩ (fun r11=>XS ⟨b2,0,none⟩ (fun r12=>Rt ZQ K (.tuple #[r11.v,r12.v]) w) w) w) w)) w6:=by
    intro w6 n x y J e6 hr hk hJ
    have h1:=Fr.get e6 g1' nofun
    have h2:=Fr.get e6 g2' nofun
    refine XH h1 (Nat.le_of_eq rfl) fun w7 s7=>hJ w7 _ s7.fr ?_
    have f7:=s7.fr
    have h2':=Fr.get f7 h2 (by intro h;have h:b2=b1:=h;omega)
    refine YH h2' (Nat.le_of_eq rfl) fun w8 s8 => ?_
    have f8:=s8.fr
    have c1:JD w8 ⟨b1,0,none⟩ (JA.cells x).toList:=by
      have:=JD.all (Fr.get f8 (s7.get (ZC h1)) (by intro h;have h:b1=b2:=h;omega))
      rw[QH (by rfl)] at this
      exact this
    have c2:JD w8 ⟨b2,0,none⟩ (QI.cells y).toList:=by
      have:=JD.all (s8.get (ZC h2'))
      rw[QH (by rfl)] at this
      exact this
    refine Aej c1 (UH c2 (Rt.mk (h:=ZQ) ⟨x,y⟩ (hk w8 ⟨?_,?_⟩)))
    · exact SI (SI (ew5.trans e6) f7 (Nat.le_of_eq hb1.symm)) f8 (by omega)
    · have z5:=ew5.size
      have z7:=f7.size
      have z8:=f8.size
      have r7:=AA.keep (I':=fun i=>w5.heap.size≤i∧i<w6.heap.size) f7 (fun b hb hd=>by have hd:b=b1:=hd;omega) (fun _ h=>h) _ _ hr
      exact AA.keep f8 (fun b hb hd=>by have hd:b=b2:=hd;omega) (fun i hi=>⟨by omega,by omega⟩) _ _ r7
  have zero:AA w5 (fun i=>w5.heap.size≤i∧i<w5.heap.size) (nod 0 0 (⟨#[]⟩:ByteArray) []) Alm:=by
    unfold AA nod Alm
    exact⟨rfl,rfl,rfl,rfl,⟨rfl,Nat.le_refl _,nofun,fun _=>rfl,nofun⟩,rfl,Nat.le_refl _,by decide,fun _=>rfl,by unfold OP;trivial⟩
  unfold VV at hK
  rw[hq] at hK
  dsimp only at hK
  refine JO (hc4 0 _ rfl) ?_
  rw[hx3]
  refine JE (fun hb => ?_) (fun hb => ?_)
  · rw[if_pos hb] at hK
    intro w6 hd
    have hc6:=hc4.ext hd.fr
    refine⟨fun w'=>JD w' ⟨b4,0,none⟩ (QI.cells x3.x1).toList,hc6,?_⟩
    refine CQ (x:=x3.x1) (fun w' h=>h) ?_
    have hz6:=hd.fr.size
    have:=fin (w6:=w6) (n:=nod 0 0 (⟨#[]⟩:ByteArray) []) (x:=Alm) (y:=x3.x1) (J:=fun w p=>JD w ⟨b4,0,none⟩ (QI.cells x3.x1).toList∧p) hd.fr (AA.keep hd.fr (fun _ _ h=>h) (fun i hi=>⟨hi.1,by omega⟩) _ _ zero) (fun w' ht=>by rw[hx3];exact hK _ w' ht) (fun w' p hf hp=>⟨hc6.fr hf (by intro h;have h:b4=b1:=h;omega),hp⟩)
    exact this
  · rw[if_neg (ne_true_of_eq_false hb)] at hK
    obtain⟨p,hp,hp1,hp2⟩:=AkK q.1 AnY
    have htx:∀ t∈q.1,t.Text.size≤2147483648:=fun t ht=>by have:=AsD ht;omega
    have hphi:=An2 q.1
    obtain⟨o,ho⟩:∃ o,Aeq AnX q.1 (64 * q.1.length+128)=some o:=by
      unfold Aeq
      rw[hp]
      dsimp only[Option.bind]
      split
      · exact⟨_,rfl⟩
      · split<;>exact⟨_,rfl⟩
    rw[ho] at hK
    refine Aq9 (htk.ext e35) htx Atu (by omega) ho (fun p' hp' => ?_) fun x w6 ht => ?_
    · rw[hp] at hp'
      cases hp'
      omega
    · have:=fin (w6:=w6) (n:=o.1) (x:=x) (y:=⟨o.2.1,o.2.2⟩) (J:=fun w p=>p) ht.1 ht.2 (fun w' ht=>hK _ w' ht) (fun w' p hf hp=>hp)
      exact this
end Go.Proofs.YtjiagmjfnbljjaaGreatDoor
end
