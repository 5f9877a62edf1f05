/- Lemmas for the statement proved in the last of these texts: part 13 of 25. Conditions: none. -/
import Derived.Test.YtjiagmjfnbljjaaGreatDoorGah
import Derived.Lib.SlBytesRow
section
namespace Go.Proofs.YtjiagmjfnbljjaaGreatDoor
open Go
set_option maxHeartbeats 4000000
set_option linter.unusedVariables false
set_option linter.unusedSimpArgs false
def ZR(S:ByteArray)(i:Nat):Int:=if h:i<S.size then(S[i].toNat:Int) else 0
def ldC(c:Int):Bool:=HL c || IJ c
def OW(S:ByteArray):Nat→Nat→Nat
  | 0,i=>i
  | f+1,i=>if ldC (ZR S i) then OW S f (i+1) else i
def HM(S:ByteArray):Nat→Nat→Nat
  | 0,i=>i
  | f+1,i=>if ZR S i != 10 then HM S f (i+1) else i
def AI:List ByteArray:=[(⟨#[61,61]⟩:ByteArray),(⟨#[33,61]⟩:ByteArray),(⟨#[60,61]⟩:ByteArray),(⟨#[62,61]⟩:ByteArray),(⟨#[43,61]⟩:ByteArray),(⟨#[45,61]⟩:ByteArray),(⟨#[42,61]⟩:ByteArray),(⟨#[42,42]⟩:ByteArray),(⟨#[47,47,61]⟩:ByteArray),(⟨#[47,47]⟩:ByteArray),(⟨#[37,61]⟩:ByteArray),(⟨#[38,61]⟩:ByteArray),(⟨#[124,61]⟩:ByteArray),(⟨#[94,61]⟩:ByteArray),(⟨#[40]⟩:ByteArray),(⟨#[41]⟩:ByteArray),(⟨#[91]⟩:ByteArray),(⟨#[93]⟩:ByteArray),(⟨#[123]⟩:ByteArray),(⟨#[125]⟩:ByteArray),(⟨#[44]⟩:ByteArray),(⟨#[58]⟩:ByteArray),(⟨#[46]⟩:ByteArray),(⟨#[61]⟩:ByteArray),(⟨#[60]⟩:ByteArray),(⟨#[62]⟩:ByteArray),(⟨#[43]⟩:ByteArray),(⟨#[45]⟩:ByteArray),(⟨#[42]⟩:ByteArray),(⟨#[37]⟩:ByteArray),(⟨#[38]⟩:ByteArray),(⟨#[124]⟩:ByteArray),(⟨#[94]⟩:ByteArray)]
def DG(S:ByteArray)(at_:Nat):List ByteArray→ByteArray
  | []=>(⟨#[]⟩:ByteArray)
  | t :: l=>if decide (at_+t.size≤S.size) && (S.extract at_ (at_+t.size)).toList==t.toList then t else DG S at_ l
structure LS where
  toks:List Tk
  deep:List Int
  opn:Int
  code:Int
  at_:Int
def LS.add(s:LS)(kind:Int)(text:ByteArray)(a:Int):LS:=⟨s.toks ++ [⟨kind,text,a⟩],s.deep,s.opn,s.code,s.at_⟩
def LS.fault(s:LS)(code a:Int):LS:=⟨s.toks,s.deep,s.opn,code,a⟩
def LS.setDeep(s:LS)(d:List Int):LS:=⟨s.toks,d,s.opn,s.code,s.at_⟩
def LS.setOpn(s:LS)(o:Int):LS:=⟨s.toks,s.deep,o,s.code,s.at_⟩
def LS.top(s:LS):Int:=s.deep.headD 0
def Aa2(n a:Int):List Int→LS→LS
  | [],s=>s
  | d :: ds,s=>if n<d then Aa2 n a ds ((s.setDeep ds).add 8 (⟨#[]⟩:ByteArray) a) else if n != d then s.fault 103 a else s
def EF(n a:Int)(s:LS):LS:=
  if n > s.top then(if s.deep.length > 40 then s.fault 107 a else(s.setDeep (n :: s.deep)).add 7 (⟨#[]⟩:ByteArray) a) else Aa2 n a s.deep s
section
variable(unq:ByteArray→ByteArray×Nat×Int)(S:ByteArray)
def Arx(t:ByteArray):Bool:=t.toList.all fun b=>IJ b.toNat
def UU(a:Nat)(s:LS):Nat×LS:=
  let c:=ZR S a
  let e:=OW S (S.size - a) a
  let t:=S.extract a e
  if HL c then(e,s.add (if AiW t then 2 else 1) t a) else
  if IJ c then(e,(if (decide ((t.size:Int)≤1000) && (c != 48 || (t.size:Int)==1)) && Arx t then s else s.fault 105 a).add 3 t a) else
  if c==39 || c==34 then
    (a+(unq (S.extract a S.size)).2.1,(if (unq (S.extract a S.size)).2.2 != 0 then s.fault 104 a else s).add 4 (unq (S.extract a S.size)).1 a) else
  let g:=DG S a AI
  if g.toList==(⟨#[]⟩:ByteArray).toList then(a,s.fault 102 a) else
  if g.toList==(⟨#[40]⟩:ByteArray).toList || (g.toList==(⟨#[91]⟩:ByteArray).toList || g.toList==(⟨#[123]⟩:ByteArray).toList) then
    (a+g.size,(((if s.opn≥60 then s.fault 107 a else s)).setOpn (s.opn+1)).add 5 g a) else
  if g.toList==(⟨#[41]⟩:ByteArray).toList || (g.toList==(⟨#[93]⟩:ByteArray).toList || g.toList==(⟨#[125]⟩:ByteArray).toList) then
    (a+g.size,(if s.opn > 0 then s.setOpn (s.opn - 1) else s).add 5 g a) else(a+g.size,s.add 5 g a)
def Acu:Nat→Nat→Nat→Bool→LS→Option LS
  | 0,_,_,_,_=>none
  | f+1,a,n,head,s=>
    if a<S.size then
      if ZR S a==35 then Acu f (HM S (S.size - a) a) n head s else
      if ZR S a==32 then Acu f (a+1) (n+1) head s else
      if ZR S a==10 then Acu f (a+1) 0 (if s.opn==0 then true else head) (if s.opn==0 && !head then s.add 6 (⟨#[]⟩:ByteArray) a else s) else
      let s1:=if head then EF n a s else s
      if s1.code==0 then
        let q:=UU unq S a s1
        if q.2.code != 0 then some q.2 else Acu f q.1 n false q.2
      else some s1
    else some s
def CG(T:List Tk):Int:=match T.getLast? with
  | some t=>t.Kind
  | none=>6
def LI(a:Int):Nat→LS→LS
  | 0,s=>s
  | k+1,s=>LI a k (s.add 8 (⟨#[]⟩:ByteArray) a)
def Aei(s:LS):LS:=
  let s1:=if CG s.toks != 6 && (CG s.toks != 7 && CG s.toks != 8) then s.add 6 (⟨#[]⟩:ByteArray) S.size else s
  (LI S.size (s1.deep.length - 1) s1).add 9 (⟨#[]⟩:ByteArray) S.size
def AaJ:Option (List Tk×Int×Int):=
  if (S.size:Int) > 65536 then some ([],101,65536) else
  (Acu unq S (S.size+1) 0 0 true ⟨[],[0],0,0,0⟩).map fun s=>if s.code != 0 then([],s.code,s.at_) else((Aei S s).toks,0,0)
end
structure Adp(w:World)(s:Sl)(S:ByteArray):Prop where
  n:s.n=S.size
  nc:s.n≤s.c
  nil:s.a=none→s.c=0
  cells:0<S.size→∀ a,s.a=some a→a.spot=none∧Lib.Bytes w a.block a.off S
theorem Adp.ext{w w':World}{s:Sl}{S:ByteArray}(h:Adp w s S)(e:Ext w w'):Adp w' s S:=
  ⟨h.n,h.nc,h.nil,fun h0 a ha=>⟨(h.cells h0 a ha).1,fun i hi=>e.cell ((h.cells h0 a ha).2 i hi)⟩⟩
def XL(w0:World):Xt w0.heap.size where
  p _ w:=Ext w0 w
  keep:=fun {I w w'} h k=>Fr.step h k fun i hi hd=>by have:=hd.1;omega
  mono:=fun h _=>h
structure Le where
  w0:World
  src:Sl
  S:ByteArray
  bs:Nat
  hS:Adp w0 src S
  len:S.size≤65536
def AcS(T:List Tk):List Value:=T.flatMap fun t=>t.cells.toList
def AfK(e:Le)(lr dr:Sl)(s:LS):Obj:=.cells #[e.src.v,lr.v,dr.v,.int .i64 s.opn,.int .i64 s.code,.int .i64 s.at_] 127
def LM(e:Le)(w:World)(s:LS)(l:List En):Prop:=
  ∃ lr dr:Sl,Mz e.w0.heap.size (XL e.w0) w (.row 131 3 lr (AcS s.toks) :: .row 3 1 dr (s.deep.reverse.map (.int .i64 ·)) :: .box e.bs (AfK e lr dr s) :: l)
section
variable{e:Le}{w w':World}{s:LS}{l:List En}
theorem Al0:∀ T:List Tk,(AcS T).length=T.length * 3
  | []=>rfl
  | t :: T=>by
    have:=Al0 T
    have h3:t.cells.toList.length=3:=rfl
    simp only[AcS,List.flatMap_cons,List.length_append,List.length_cons] at this ⊢
    omega
theorem LM.ext(h:LM e w s l)(x:Ext w w'):LM e w' s l:=by
  obtain⟨lr,dr,hm⟩:=h
  exact⟨lr,dr,hm.ext x⟩
theorem LM.base(h:LM e w s l):Ext e.w0 w:=by
  obtain⟨lr,dr,I,_,h2⟩:=h
  exact h2
theorem LM.src(h:LM e w s l):Adp w e.src e.S:=e.hS.ext h.base
theorem AtW:SlT 84 131 3 32:=.mk (by kernel_rfl) (by decide) (by kernel_rfl)
theorem ApT:SlT 89 3 1 8:=.mk (by kernel_rfl) (by decide) (by kernel_rfl)
def LMs(e:Le)(w:World)(lr dr:Sl)(s:LS)(l:List En):Prop:=
  Mz e.w0.heap.size (XL e.w0) w (.row 131 3 lr (AcS s.toks) :: .row 3 1 dr (s.deep.reverse.map (.int .i64 ·)) :: .box e.bs (AfK e lr dr s) :: l)
theorem LMs.hb{lr dr:Sl}(h:LMs e w lr dr s l):w.heap[e.bs]? = some (AfK e lr dr s):=Mz.heap h QP
theorem LMs.cells{lr dr:Sl}(h:LMs e w lr dr s l):JD w ⟨e.bs,0,none⟩ [e.src.v,lr.v,dr.v,.int .i64 s.opn,.int .i64 s.code,.int .i64 s.at_]:=.all h.hb
theorem LMs.ln{lr dr:Sl}(h:LMs e w lr dr s l):lr.n=s.toks.length:=by
  have:Own w _ _ 3 lr (AcS s.toks):=Mz.ok (X:=XL e.w0) h (e:=.row 131 3 lr (AcS s.toks)) (by simp)
  have:=this.len
  rw[Al0] at this;omega
theorem LMs.dn{lr dr:Sl}(h:LMs e w lr dr s l):dr.n=s.deep.length:=by
  have:Own w _ _ 1 dr (s.deep.reverse.map (.int .i64 ·)):=Mz.ok (X:=XL e.w0) h (e:=.row 3 1 dr (s.deep.reverse.map (.int .i64 ·))) (by simp)
  have:=this.len
  simp at this;omega
theorem LM.add{K:Unit→World→Prop}(h:LM e w s l)(hn:s.toks.length≤2147483648)(kind:Int)(text:ByteArray)(a:Int)(c:∀ w',LM e w' (s.add kind text a) l→K () w'):YL (some ⟨e.bs,0,none⟩) kind text a K w:=by
  obtain⟨lr,dr,h⟩:=h
  have hs:LMs e w lr dr s l:=h
  have hln:=hs.ln
  refine Adw _ _ _ _ _ _ ?_
  unfold Aao
  refine JM rfl (CR (x:=lr) (hs.cells 1 _ rfl) (Mz.bx h fun b w1 h1 => ?_))
  have hbox:JD w1 ⟨b,0,none⟩ (JN.cells ⟨kind,text,a⟩).toList:=.all (h1.heap List.mem_cons_self)
  replace h1:=h1.sub (List.sublist_cons_self _ _)
  refine h1.app AtW (src:=⟨some ⟨b,0,none⟩,1,1⟩) (news:=(JN.cells ⟨kind,text,a⟩).toList) ⟨nofun,fun a' ha => ?_⟩ rfl (fun u hu => ?_) (by simp only;omega) (by decide) fun lr' w2 hl2 h2 => ?_
  · simp only[Option.some.injEq] at ha
    subst ha;exact hbox
  · simp only[JN.cells,List.mem_cons,List.not_mem_nil,or_false] at hu
    rcases hu with rfl | rfl | rfl<;>rfl
  · refine JM rfl ?_
    rw[GQ]
    have hb2:w2.heap[e.bs]? = some (AfK e lr dr s):=h2.heap QP
    refine Ail hb2 (by simp) fun w3 h3=>Rt.mk (h:=QK) () (c w3 ⟨lr',dr,?_⟩)
    have hk:=h2.set (k:=2) (o':=AfK e lr' dr (s.add kind text a)) rfl h3
    have hf:AcS (s.add kind text a).toks=AcS s.toks++(JN.cells ⟨kind,text,a⟩).toList:=by simp[AcS,LS.add]
    rw[hf]
    exact hk
theorem LM.fault{K:Unit→World→Prop}(h:LM e w s l)(code a:Int)(c:∀ w',LM e w' (s.fault code a) l→K () w'):VJ (some ⟨e.bs,0,none⟩) code a K w:=by
  obtain⟨lr,dr,h⟩:=h
  have hs:LMs e w lr dr s l:=h
  refine AbU _ _ _ _ _ ?_
  unfold RE
  refine JM rfl ?_
  rw[GQ]
  refine YH hs.hb (by simp) fun w3 h3=>Rt.mk (h:=QK) () (c w3 ⟨lr,dr,?_⟩)
  exact h.set (k:=2) (o':=AfK e lr dr (s.fault code a)) rfl h3
theorem LM.opnSet{K:World→Prop}(h:LM e w s l)(o:Int)(c:∀ w',LM e w' (s.setOpn o) l→K w'):YX ((⟨e.bs,0,none⟩:Addr).add 3) o K w:=by
  obtain⟨lr,dr,h⟩:=h
  have hs:LMs e w lr dr s l:=h
  rw[GQ]
  refine MB hs.hb (by simp) fun w3 h3=>c w3 ⟨lr,dr,?_⟩
  exact h.set (k:=2) (o':=AfK e lr dr (s.setOpn o)) rfl h3
theorem LM.opnGet{K:Int→World→Prop}(h:LM e w s l)(c:K s.opn w):JK ((⟨e.bs,0,none⟩:Addr).add 3) K w:=by
  obtain⟨lr,dr,h⟩:=h
  exact JO (LMs.cells h 3 _ rfl) c
theorem LM.codeGet{K:Int→World→Prop}(h:LM e w s l)(c:K s.code w):JK ((⟨e.bs,0,none⟩:Addr).add 4) K w:=by
  obtain⟨lr,dr,h⟩:=h
  exact JO (LMs.cells h 4 _ rfl) c
theorem LM.srcGet{K:Sl→World→Prop}(h:LM e w s l)(c:K e.src w):CS ⟨e.bs,0,none⟩ K w:=by
  obtain⟨lr,dr,h⟩:=h
  exact AmV (LMs.cells h 0 _ rfl) c
theorem Adp.byte{w:World}{s:Sl}{S:ByteArray}(h:Adp w s S){i:Nat}(hi:i<S.size){K:Int→World→Prop}(c:K (ZR S i) w):nn s.a fun a=>0≤(i:Int)∧(i:Int)<((s.n:Nat):Int)∧WL (a.add ((i:Int).toNat * 1)) K w:=by
  have hn:=h.n
  cases ha:s.a with
  | none=>have:=h.nil ha;have:=h.nc;omega
  | some a=>
    refine JM rfl ⟨by omega,by omega,?_⟩
    obtain⟨hsp,hb⟩:=h.cells (by omega) a ha
    have hc:=hb i hi
    have:(a.add ((i:Int).toNat * 1))=⟨a.block,a.off+i,none⟩:=by
      cases a with
      | mk b o sp=>
        simp only at hsp
        subst hsp
        rw[GQ]
        simp
    rw[this]
    refine AnP hc ?_
    unfold ZR at c
    rw[dif_pos hi] at c;exact c
theorem Adp.text{w:World}{s:Sl}{S:ByteArray}(h:Adp w s S){i j:Nat}(hij:i≤j)(hj:j≤S.size){K:ByteArray→World→Prop}{c0:Nat}{a0:Option Addr}(h0:a0=(if s.c=i then s.a else s.a.map (·.add (i * 1))))(c:K (S.extract i j) w):rn (convert 42 9 (.slice a0 (j - i) c0)) EB K w:=by
  have hu:PP.underlying 42=some (.slice 5):=by kernel_rfl
  have hu2:PP.underlying 5=some (.int .u8):=by kernel_rfl
  have hu3:PP.underlying 9=some .string:=by kernel_rfl
  have hn:=h.n
  have hnc:=h.nc
  refine YZ (h:=EB) (S.extract i j) ?_ c
  by_cases he:i=j
  · subst he
    have hz:S.extract i i=⟨#[]⟩:=by
      apply ByteArray.ext
      apply Array.toList_inj.1
      rw[Lib.extract_data]
      simp
    rw[hz,Nat.sub_self]
    cases a0 with
    | none=>exact run_convert_bytes_nil w _ _ hu hu2 _ _ _ hu3
    | some a=>
      rw[run_convert_bytes_string w _ _ _ _ _ _ hu hu2 hu3]
      exact run_bytesToString w a 0 c0 [] (by simp[loadCells,loadCellsFrom])
  · have hlt:¬ s.c=i:=by omega
    rw[if_neg hlt] at h0
    cases ha:s.a with
    | none=>have:=h.nil ha;omega
    | some a=>
      obtain⟨hsp,hb⟩:=h.cells (by omega) a ha
      rw[ha] at h0
      cases a with
      | mk b o sp=>
        simp only at hsp
        subst hsp
        simp only[Option.map_some,GQ,Nat.mul_one] at h0
        subst h0
        have:=Lib.run_convert_window (P:=PP) w 42 5 9 hu hu2 hu3 b o S hb i (j - i) c0 (by omega)
        rw[this,show i+(j - i)=j by omega];rfl
end
end Go.Proofs.YtjiagmjfnbljjaaGreatDoor
end
section
namespace Go.Proofs.YtjiagmjfnbljjaaGreatDoor
open Go
set_option maxHeartbeats 4000000
set_option linter.unusedVariables false
set_option linter.unusedSimpArgs false
theorem AcW{w:World}{c:Int}{K:Bool→World→Prop}(k:K (HL c) w):KS c K w:=by
  refine Agx _ _ _ ?_
  unfold AdM
  unfold HL at k
  refine JE (fun h1 => ?_) (fun h1 => ?_)
  · refine JE (fun h2 => ?_) (fun h2 => ?_)
    · rw[h1,h2] at k;exact RtB _ (by simpa using k)
    · refine JE (fun h3 => ?_) (fun h3 => ?_)
      · refine JE (fun h4 => ?_) (fun h4 => ?_)
        · rw[h1,h2,h3,h4] at k;exact RtB _ (by simpa using k)
        · rw[h1,h2,h3,h4] at k;exact RtB _ (by simpa using k)
      · rw[h1,h2,h3] at k;exact RtB _ (by simpa using k)
  · refine JE (fun h3 => ?_) (fun h3 => ?_)
    · refine JE (fun h4 => ?_) (fun h4 => ?_)
      · rw[h1,h3,h4] at k;exact RtB _ (by simpa using k)
      · rw[h1,h3,h4] at k;exact RtB _ (by simpa using k)
    · rw[h1,h3] at k;exact RtB _ (by simpa using k)
theorem WO{w:World}{c:Int}{K:Bool→World→Prop}(k:K (IJ c) w):FG c K w:=by
  refine Ahv _ _ _ ?_
  unfold Afl
  unfold IJ at k
  refine JE (fun h1 => ?_) (fun h1 => ?_)
  · rw[h1] at k;exact RtB _ (by simpa using k)
  · rw[h1] at k;exact RtB _ (by simpa using k)
theorem Own.shrink{w:World}{B e sz:Nat}{s:Sl}{xs:List Value}(h:Own w B e sz s xs){k:Nat}(hk:k≤s.n):Own w B e sz (s.to_ k) (xs.take (k * sz)):=by
  obtain⟨h1,h2⟩:=h
  have hle:k * sz≤s.n * sz:=Nat.mul_le_mul_right _ hk
  refine⟨by simp[Sl.to_,h1,Nat.min_eq_left hle],?_⟩
  rcases h2 with⟨hv,hn⟩ | ⟨g,cap,cur,hv,hb,hg,hn,hm,hc,ht⟩
  · left
    simp only[Sl.v,Value.slice.injEq] at hv
    refine⟨?_,by simp only[Sl.to_];omega⟩
    simp only[Sl.v,Sl.to_,Value.slice.injEq]
    exact⟨hv.1,by omega,hv.2.2⟩
  · right
    simp only[Sl.v,Value.slice.injEq] at hv
    refine⟨g,cap,cur,?_,hb,hg,by simp only[Sl.to_];omega,hm,hc,?_⟩
    · simp only[Sl.v,Sl.to_,Value.slice.injEq]
      exact⟨hv.1,trivial,hv.2.2⟩
    · simp only[Sl.to_]
      rw[← ht,List.take_take,Nat.min_eq_left hle]
theorem AfP{P:Program}{w:World}{t e:TypeId}{i:TypeInfo}(hu:P.underlying t=some (.slice e))(hi:P.info? e=some i)(s:Sl)(lo hi':Nat)(h1:lo≤hi')(h2:hi'≤s.c) :
    (Instr.sliceAt t s.v (some (.int .i64 (lo:Int))) (some (.int .i64 (hi':Int))) none).run P w = .ok (Sl.v ⟨if s.c=lo then s.a else s.a.map (·.add (lo * i.size)),hi' - lo,s.c - lo⟩) w:=by
  simp[Instr.sliceAt,underlying,hu,Sl.v,Instr.slice,Instr.sliceBounds,Instr.sliceBound,asIntOf,h1,h2,sizeOf,typeInfo,hi]
theorem AuL{t e sz by_:Nat}(hT:SlT t e sz by_){s:Sl}{lo hi:Nat}{K:Sl→World→Prop}{w:World}(h1:lo≤hi)(h2:hi≤s.c)(k:K ⟨if s.c=lo then s.a else s.a.map (·.add (lo * sz)),hi - lo,s.c - lo⟩ w):rn (Instr.sliceAt t s.v (some (.int .i64 (lo:Int))) (some (.int .i64 (hi:Int))) none) hSl K w:=by
  obtain⟨h,_,i,z,hi',hs,_⟩:=hT
  subst hs
  exact YZ (h:=hSl) _ (AfP h hi' s lo hi h1 h2) k
theorem Ana:SlT 42 5 1 1:=.mk (by kernel_rfl) (by decide) (by kernel_rfl)
theorem Agu(S:ByteArray):∀ f i,i≤OW S f i∧OW S f i≤i+f
  | 0,i=>⟨Nat.le_refl _,Nat.le_refl _⟩
  | f+1,i=>by
    unfold OW
    split
    · have:=Agu S f (i+1);omega
    · omega
theorem Agb(S:ByteArray):∀ f i,i≤HM S f i∧HM S f i≤i+f
  | 0,i=>⟨Nat.le_refl _,Nat.le_refl _⟩
  | f+1,i=>by
    unfold HM
    split
    · have:=Agb S f (i+1);omega
    · omega
section
variable{e:Le}{w w':World}{s:LS}{l:List En}
theorem LMs.topCell{lr dr:Sl}(h:LMs e w lr dr s l){d:Int}{ds:List Int}(hd:s.deep=d :: ds):∃ a,dr.a=some a∧dr.n=ds.length+1∧w.cell? (a.add (ds.length * 1))=some (.int .i64 d):=by
  have hdn:=h.dn
  rw[hd] at hdn
  have hown:Own w e.w0.heap.size 3 1 dr (s.deep.reverse.map (.int .i64 ·)):=Mz.ok (X:=XL e.w0) h (e:=.row 3 1 dr (s.deep.reverse.map (.int .i64 ·))) QF
  have hc:=hown.cells
  cases ha:dr.a with
  | none=>have:=(hc.1 ha).1;simp at hdn;omega
  | some a=>
    refine⟨a,rfl,by simpa using hdn,?_⟩
    refine hc.2 a ha _ _ ?_
    rw[hd]
    simp
theorem AbO{n:Nat}(h:n≤4294967296):IntKind.i64.wrap (((n+1:Nat):Int) - 1)=(n:Int):=by rw[JY (by omega) (by omega)];omega
structure Ado(s:LS):Prop where
  deep:∃ ds,s.deep=ds ++ [0]
  dlen:s.deep.length≤41
  o0:0≤s.opn
  o1:s.opn≤60
theorem Ado.cons{s:LS}(h:Ado s):∃ d ds,s.deep=d :: ds:=by
  obtain⟨ds,hd⟩:=h.deep
  cases ds with
  | nil=>exact⟨0,[],hd⟩
  | cons a b=>exact⟨a,b ++ [0],by simpa using hd⟩
theorem LM.begin{K:Unit→World→Prop}(h:LM e w s l)(ho:Ado s)(ht:s.toks.length≤2147483000){n:Int}(hn:0≤n)(a:Int)(c:∀ w',LM e w' (EF n a s) l→K () w'):CY (some ⟨e.bs,0,none⟩) n a K w:=by
  obtain⟨d,ds,hd⟩:=ho.cons
  have hdl:=ho.dlen
  have htop:s.top=d:=by unfold LS.top;rw[hd];rfl
  refine AbT _ _ _ _ _ ?_
  unfold RD
  intro w1 hw1
  replace h:=h.ext hw1.fr
  obtain⟨lr,dr,h⟩:=h
  have hs:LMs e w1 lr dr s l:=h
  obtain⟨ad,had,hdn,YV⟩:=hs.topCell hd
  rw[hd] at hdl
  simp only[List.length_cons] at hdl
  refine⟨fun w'=>LMs e w' lr dr s l,hs,JM rfl ?_⟩
  refine IV (x:=dr) (fun w' h'=>h'.cells 2 _ rfl) (JM rfl (IV (x:=dr) (fun w' h'=>h'.cells 2 _ rfl) ?_))
  rw[hdn,AbO (by omega)]
  refine JM had ⟨by omega,by omega,JV (x:=d) (fun w' h' => ?_) ?_⟩
  · obtain⟨ad',had',_,hcell'⟩:=h'.topCell hd
    rw[had] at had'
    cases had'
    exact hcell'
  refine JE (fun hb => ?_) (fun hb => ?_)
  · have hgt:n > s.top:=by rw[htop];simpa using hb
    refine JM rfl (Af8 (x:=dr) (hs.cells 2 _ rfl) (JE (fun hb1 => ?_) (fun hb1 => ?_)))
    · refine LM.fault ⟨lr,dr,h⟩ _ _ fun w2 h2=>Rt.mk (h:=QK) () (c w2 ?_)
      unfold EF
      rw[if_pos hgt,if_pos (by rw[hd];simp at hb1 ⊢;omega)]
      exact h2
    · refine JM rfl (Af8 (x:=dr) (hs.cells 2 _ rfl) (Mz.bx h fun b w2 h2 => ?_))
      have hbox:JD w2 ⟨b,0,none⟩ [.int .i64 n]:=.all (h2.heap List.mem_cons_self)
      replace h2:=(h2.sub (List.sublist_cons_self _ _)).perm (.swap _ _ _)
      refine h2.app ApT (src:=⟨some ⟨b,0,none⟩,1,1⟩) (news:=[.int .i64 n]) ⟨nofun,fun a' ha => ?_⟩ rfl (fun u hu => ?_) (by simp only;omega) (by decide) fun dr' w3 hl3 h3 => ?_
      · simp only[Option.some.injEq] at ha
        subst ha;exact hbox
      · simp only[List.mem_cons,List.not_mem_nil,or_false] at hu
        subst hu;rfl
      · refine JM rfl ?_
        rw[GQ]
        have hb3:w3.heap[e.bs]? = some (AfK e lr dr s):=h3.heap QP
        refine Ak7 hb3 (by simp) fun w4 h4 => ?_
        have hk:=h3.set (k:=2) (o':=AfK e lr dr' (s.setDeep (n :: s.deep))) rfl h4
        have hk2:LM e w4 (s.setDeep (n :: s.deep)) l:=by
          refine⟨lr,dr',?_⟩
          have:=hk.perm (.swap _ _ _)
          simpa [LS.setDeep] using this
        refine hk2.add (by simp only[LS.setDeep];omega) _ _ _ fun w5 h5=>Rt.mk (h:=QK) () (c w5 ?_)
        unfold EF
        rw[if_pos hgt,if_neg (by rw[hd];simp at hb1 ⊢;omega)]
        exact h5
  · have hle:¬ n > s.top:=by rw[htop];simpa using hb
    have hres:EF n a s=Aa2 n a s.deep s:=by unfold EF;rw[if_neg hle]
    rw[hres] at c
    have hdeep0:=ho.deep
    clear hres hle hb htop YV had hs hd
    refine YE (fun m u w'=>∃ s1:LS,m=s1.deep.length∧LM e w' s1 l∧Aa2 n a s1.deep s1=Aa2 n a s.deep s∧(∃ ds,s1.deep=ds ++ [0])∧s1.toks.length+s1.deep.length≤s.toks.length+s.deep.length) s.deep.length () rfl ⟨s,rfl,⟨lr,dr,h⟩,rfl,hdeep0,Nat.le_refl _⟩ ?_
    clear h hdn
    rintro m u w2 ⟨s1,rfl,h,hpop,⟨ds1,hd1⟩,hlen⟩ again hag
    obtain⟨d1,ds2,hd2⟩:∃ d ds,s1.deep=d :: ds:=by
      cases ds1 with
      | nil=>exact⟨0,[],hd1⟩
      | cons x y=>exact⟨x,y ++ [0],by simpa using hd1⟩
    have hsl:s.deep.length≤41:=ho.dlen
    have hlen2:ds2.length+1≤2147483500:=by
      have:s1.deep.length=ds2.length+1:=by rw[hd2];rfl
      omega
    intro w3 hw3
    replace h:=h.ext hw3.fr
    obtain⟨lr,dr,h⟩:=h
    have hs:LMs e w3 lr dr s1 l:=h
    obtain⟨ad,had,hdn,YV⟩:=hs.topCell hd2
    refine⟨fun w'=>LMs e w' lr dr s1 l,hs,JM rfl ?_⟩
    refine IV (x:=dr) (fun w' h'=>h'.cells 2 _ rfl) (JM rfl (IV (x:=dr) (fun w' h'=>h'.cells 2 _ rfl) ?_))
    rw[hdn,AbO (by omega)]
    have top:∀ w':World,LMs e w' lr dr s1 l→w'.cell? (ad.add ((ds2.length:Int).toNat * 1))=some (.int .i64 d1):=by
      intro w' h'
      obtain⟨ad',had',_,hcell'⟩:=h'.topCell hd2
      rw[had] at had'
      cases had'
      exact hcell'
    refine JM had ⟨by omega,by omega,JV (x:=d1) top ?_⟩
    refine JE (fun hb => ?_) (fun hb => ?_)
    · have hlt:n<d1:=by simpa using hb
      intro w4 hw4
      replace h:=h.ext hw4.fr
      replace hs:LMs e w4 lr dr s1 l:=h
      refine⟨fun w'=>LMs e w' lr dr s1 l,hs,JM rfl ?_⟩
      refine IV (x:=dr) (fun w' h'=>h'.cells 2 _ rfl) (JM rfl (IV (x:=dr) (fun w' h'=>h'.cells 2 _ rfl) ?_))
      rw[hdn,AbO (by omega)]
      have hown:Own w4 e.w0.heap.size 3 1 dr (s1.deep.reverse.map (.int .i64 ·)):=Mz.ok (X:=XL e.w0) h (e:=.row 3 1 dr (s1.deep.reverse.map (.int .i64 ·))) QF
      have hncap:ds2.length≤dr.c:=by
        rcases hown.2 with⟨hv,hn0⟩ | ⟨g,cap,cur,hv,_,_,hnc,_⟩
        · omega
        · simp only[Sl.v,Value.slice.injEq] at hv
          omega
      obtain⟨hT1,hT2,i,z,hT3,hT4,hT5⟩:=ApT
      refine VQ (h:=hSl) (dr.to_ ds2.length) (fun w' h' => ?_) (JM rfl ?_)
      · have:=AcC (P:=PP) (w:=w') hT1 hT3 dr (ds2.length:Int) (by omega) (by omega)
        have h2:(ds2.length:Int).toNat=ds2.length:=by omega
        rw[h2] at this
        exact this
      rw[GQ]
      refine Ak7 hs.hb (by simp) fun w5 h5 => ?_
      have hk:LM e w5 (s1.setDeep ds2) l:=by
        refine⟨lr,dr.to_ ds2.length,?_⟩
        obtain⟨I,hm1,hx1⟩:=h
        have hsh:Own w4 e.w0.heap.size 3 1 (dr.to_ ds2.length) (ds2.reverse.map (.int .i64 ·)):=by
          have:=hown.shrink (k:=ds2.length) (by omega)
          rw[hd2] at this
          simpa using this
        have hm2:=(hm1.perm (.swap _ _ _)).turn (e':=.row 3 1 (dr.to_ ds2.length) (ds2.reverse.map (.int .i64 ·))) (D:=fun _=>False) (Fr.refl _ w4) nofun hsh fun i hi=>.inl hi
        have hz:Mz e.w0.heap.size (XL e.w0) w4 _:=⟨I,hm2.1,hx1⟩
        have:=hz.set (k:=2) (o':=AfK e lr (dr.to_ ds2.length) (s1.setDeep ds2)) rfl h5
        exact this.perm (.swap _ _ _)
      refine hk.add (by simp only[LS.setDeep];omega) _ _ _ fun w6 h6 => ?_
      refine hag ds2.length () w6 (by rw[hd2];simp) ⟨_,rfl,h6,?_,?_,?_⟩
      · rw[← hpop,hd2]
        show Aa2 n a ds2 _=if n<d1 then _ else _
        rw[if_pos hlt]
      · cases ds1 with
        | nil=>
          rw[hd1] at hd2
          simp at hd2
          omega
        | cons x y=>
          rw[hd1] at hd2
          simp only[List.cons_append,List.cons.injEq] at hd2
          exact⟨y,by simp only[LS.add,LS.setDeep];exact hd2.2.symm⟩
      · simp only[LS.add,LS.setDeep,List.length_append,List.length_cons,List.length_nil]
        have:s1.deep.length=ds2.length+1:=by rw[hd2];rfl
        omega
    · have hge:¬ n<d1:=by simpa using hb
      intro w4 hw4
      replace h:=h.ext hw4.fr
      replace hs:LMs e w4 lr dr s1 l:=h
      refine⟨fun w'=>LMs e w' lr dr s1 l,hs,JM rfl ?_⟩
      refine IV (x:=dr) (fun w' h'=>h'.cells 2 _ rfl) (JM rfl (IV (x:=dr) (fun w' h'=>h'.cells 2 _ rfl) ?_))
      rw[hdn,AbO (by omega)]
      refine JM had ⟨by omega,by omega,JV (x:=d1) top ?_⟩
      have hp2:Aa2 n a s1.deep s1=if n != d1 then s1.fault 103 a else s1:=by
        rw[hd2]
        show(if n<d1 then _ else _)=_
        rw[if_neg hge]
      rw[← hpop,hp2] at c
      refine JE (fun hb1 => ?_) (fun hb1 => ?_)
      · rw[if_pos hb1] at c
        exact LM.fault ⟨lr,dr,h⟩ _ _ fun w5 h5=>Rt.mk (h:=QK) () (c w5 h5)
      · rw[if_neg (ne_true_of_eq_false hb1)] at c
        exact Rt.mk (h:=QK) () (c w4 ⟨lr,dr,h⟩)
end
end Go.Proofs.YtjiagmjfnbljjaaGreatDoor
end
section
namespace Go.Proofs.YtjiagmjfnbljjaaGreatDoor
open Go
set_option maxHeartbeats 4000000
set_option linter.unusedVariables false
set_option linter.unusedSimpArgs false
theorem HK(S:ByteArray){a b:Nat}(h:a≤b)(hb:b≤S.size):(S.extract a b).size=b - a:=by
  simp;omega
theorem Apj(S:ByteArray){k:Nat}(h:k<S.size):OW S (S.size - k) k=if ldC (ZR S k) then OW S (S.size - (k+1)) (k+1) else k:=by
  rw[show S.size - k=(S.size - (k+1))+1 by omega];rfl
theorem AoS(S:ByteArray){k:Nat}(h:k<S.size):HM S (S.size - k) k=if ZR S k != 10 then HM S (S.size - (k+1)) (k+1) else k:=by
  rw[show S.size - k=(S.size - (k+1))+1 by omega];rfl
theorem bnt{b:Bool}(h:(!b)=true):¬ b=true:=by cases b<;>simp_all
theorem bnf{b:Bool}(h:(!b)=false):b=true:=by cases b<;>simp_all
theorem Aa4(S:ByteArray)(a:Nat)(t:ByteArray)(l:List ByteArray):DG S a (t :: l)=if decide (a+t.size≤S.size) && (S.extract a (a+t.size)).toList==t.toList then t else DG S a l:=rfl
theorem AsS{w:World}{src:Sl}{S:ByteArray}(h:Adp w src S)(hS:S.size≤65536){a:Nat}(ha:a<S.size){K:ByteArray→World→Prop}(hK:∀ w',Ext w w'→K (DG S a AI) w'):AbS src (a:Int) K w:=by
  refine Ai1 _ _ _ _ ?_
  unfold AgK
  intro b w1 h1
  have hs:KE w1 AI ⟨some b,33,33⟩:=KE.made h1 rfl
  have hlen:AI.length=33:=rfl
  have hsz:∀ t∈AI,t.size≤3:=by decide
  have hdrop:DG S a (AI.drop 0)=DG S a AI:=rfl
  generalize AI=ss at hs hK hlen hsz hdrop
  have h':=h.ext h1.fr
  have hn:=h.n
  have hnc:=h.nc
  refine YE (fun n i w'=>Ext w1 w'∧∃ k:Nat,i=k∧n+k=ss.length∧DG S a (ss.drop k)=DG S a ss) ss.length 0 rfl ⟨Ext.refl _,0,rfl,rfl,hdrop⟩ ?_
  rintro n i w2 ⟨e2,k,rfl,hk,hfrom⟩ again hag
  refine JE (fun hlt => ?_) (fun hge => ?_)
  · have hlt':k<ss.length:=by simp at hlt;omega
    obtain⟨a',ha',hc⟩:=hs.2 k ss[k] (List.getElem?_eq_getElem hlt')
    simp only[Option.some.injEq] at ha'
    subst ha'
    have hsk:=hsz _ (List.getElem_mem hlt')
    have YV:∀ {w':World},Ext w1 w'→w'.cell? (b.add ((k:Int).toNat * 1))=some (.string ss[k]):=fun e=>by simpa using e.cell hc
    rw[List.drop_eq_getElem_cons hlt',Aa4] at hfrom
    intro w3 hw3
    have e3:=e2.trans hw3.fr
    refine⟨fun w'=>Ext w1 w',e3,by omega,by omega,?_⟩
    refine YO (x:=ss[k]) (fun w' e=>YV e) ?_
    have hw:IntKind.i64.wrap ((a:Int)+(ss[k].size:Int))=((a+ss[k].size:Nat):Int):=by rw[JY (by omega) (by omega)];omega
    rw[hw]
    have next:∀ {w':World},Ext w1 w'→(decide (a+ss[k].size≤S.size) && (S.extract a (a+ss[k].size)).toList==ss[k].toList)=false→again [.int .i64 (IntKind.i64.wrap ((k:Int)+1))] w':=by
      intro w' e hf
      rw[if_neg (ne_true_of_eq_false hf)] at hfrom
      rw[ZS (n:=ss.length) (by omega) (by omega) (by omega)]
      exact hag (n - 1) ((k:Int)+1) w' (by omega) ⟨e,k+1,by omega,by omega,hfrom⟩
    refine JE (fun hb => ?_) (fun hb => ?_)
    · have hle:a+ss[k].size≤S.size:=by simp at hb;omega
      refine⟨by omega,by omega,YO (x:=ss[k]) (fun w' e=>YV e) ?_⟩
      rw[hw]
      obtain⟨hT1,hT2,i,z,hT3,hT4,hT5⟩:=Ana
      refine VQ (h:=hSl) ⟨if src.c=a then src.a else src.a.map (·.add (a * 1)),a+ss[k].size - a,src.c - a⟩ (fun w' e => ?_) ?_
      · have:=AfP (P:=PP) (w:=w') hT1 hT3 src a (a+ss[k].size) (by omega) (by omega)
        rw[hT4] at this
        exact this
      refine⟨by omega,by omega,YO (x:=ss[k]) (fun w' e=>YV e) ?_⟩
      refine(h'.ext e3).text (i:=a) (j:=a+ss[k].size) (by omega) hle rfl ⟨e3,?_⟩
      refine JE (fun hb1 => ?_) (fun hb1 => ?_)
      · rw[if_pos (by rw[hb1];simpa using hle)] at hfrom
        refine⟨by omega,by omega,YS (YV e3) (Rt.mk (h:=EB) _ ?_)⟩
        rw[hfrom];exact hK w3 (h1.fr.trans e3)
      · exact next e3 (by rw[hb1];simp)
    · have hgt:¬ a+ss[k].size≤S.size:=by simp at hb;omega
      exact⟨e3,next e3 (by simp[hgt])⟩
  · have hk':ss.length≤k:=by simp at hge;omega
    rw[List.drop_eq_nil_of_le hk'] at hfrom
    refine Rt.mk (h:=EB) _ ?_
    have:DG S a ss=(⟨#[]⟩:ByteArray):=hfrom.symm
    rw[← this];exact hK w2 (h1.fr.trans e2)
structure Aj1(unq:ByteArray→ByteArray×Nat×Int):Prop where
  run:∀ ⦃w:World⦄ ⦃t:ByteArray⦄ ⦃K:UP→World→Prop⦄,t.size≤65536→(∀ w',Ext w w'→K ⟨(unq t).1,((unq t).2.1:Int),(unq t).2.2⟩ w')→KT t K w
  len:∀ t,(unq t).2.1≤t.size
section
variable{e:Le}{w w':World}{s:LS}{l:List En}{unq:ByteArray→ByteArray×Nat×Int}
theorem LM.token(hu:Aj1 unq){K:Int→World→Prop}(h:LM e w s l)(ho:Ado s)(ht:s.toks.length≤2147483000){a:Nat}(ha:a<e.S.size)(c:∀ w',LM e w' (UU unq e.S a s).2 l→K ((UU unq e.S a s).1:Int) w'):CZ (some ⟨e.bs,0,none⟩) (a:Int) K w:=by
  have hlen:=e.len
  have hSn:=h.src.n
  have hSnc:=h.src.nc
  refine AbV _ _ _ _ ?_
  unfold RF
  refine JM rfl (h.srcGet (h.src.byte ha ?_))
  unfold UU at c
  dsimp only at c
  have k8:∀ {w:World} {s1:LS} {g:ByteArray},LM e w s1 l→s1.toks.length≤2147483000→g.size≤65536→(∀ w',LM e w' (s1.add 5 g a) l→K ((a+g.size:Nat):Int) w')→UL (Rt (QC .i64) K) (some ⟨e.bs,0,none⟩) (a:Int) g w:=by
    intro w s1 g h ht hg c
    unfold UL
    refine h.add (by omega) _ _ _ fun w h=>Rt.mk (h:=QC .i64) _ ?_
    have:IntKind.i64.wrap ((a:Int)+(g.size:Int))=((a+g.size:Nat):Int):=by rw[JY (by omega) (by omega)];omega
    rw[this];exact c w h
  have k0:∀ {w:World} {e0:Nat},LM e w s l→a≤e0→e0≤e.S.size→OW e.S (e.S.size - a) a=e0→AL (Rt (QC .i64) K) (some ⟨e.bs,0,none⟩) (a:Int) (ZR e.S a) (e0:Int) w:=by
    intro w e0 h hle hes he0
    rw[he0] at c
    unfold AL
    refine JM rfl (h.srcGet (AuL Ana hle (by omega) (h.src.text hle hes rfl ?_)))
    have htsz:(e.S.extract a e0).size≤65536:=by rw[HK _ hle hes];omega
    generalize e.S.extract a e0=t at c htsz
    refine AcW (JE (fun hb => ?_) (fun hb => ?_))
    · rw[if_pos hb] at c
      refine AfM t _ fun w1 e1 => ?_
      replace h:=h.ext e1
      refine JE (fun hb1 => ?_) (fun hb1 => ?_)
      · rw[if_pos hb1] at c
        exact h.add (by omega) _ _ _ fun w h=>Rt.mk (h:=QC .i64) _ (c w h)
      · rw[if_neg (ne_true_of_eq_false hb1)] at c
        exact h.add (by omega) _ _ _ fun w h=>Rt.mk (h:=QC .i64) _ (c w h)
    rw[if_neg (ne_true_of_eq_false hb)] at c
    refine WO (JE (fun hb => ?_) (fun hb => ?_))
    · rw[if_pos hb] at c
      have k1:∀ {w:World} (x:Bool),LM e w s l→x=(decide ((t.size:Int)≤1000) && (ZR e.S a != 48 || (t.size:Int)==1))→GY (Rt (QC .i64) K) (some ⟨e.bs,0,none⟩) (a:Int) (e0:Int) t x w:=by
        intro w x h hx
        rw[← hx] at c
        unfold GY
        have htl:t.toList.length=t.size:=by rw[ByteArray.toList_eq];simp
        refine YE (fun n y w'=>LM e w' s l∧∃ k:Nat,y.2=k∧n+k=t.size∧y.1=(x && (t.toList.take k).all fun b=>IJ b.toNat)) t.size (x,0) rfl ⟨h,0,rfl,rfl,by simp⟩ ?_
        clear h
        rintro n ⟨y1,y2⟩ w ⟨h,k,hk1,hk,hall⟩ again hag
        dsimp only at hk1 hall ⊢
        subst hk1
        refine JE (fun hb1 => ?_) (fun hb1 => ?_)
        · have hlt:k<t.size:=by simp at hb1;omega
          have hget:t.toList[k]? = some t[k]:=by
            rw[ByteArray.toList_eq]
            simp[hlt]
            rfl
          have htake:t.toList.take (k+1)=t.toList.take k ++ [t[k]]:=by
            rw[List.take_add_one,hget];rfl
          have hw:IntKind.i64.wrap ((k:Int)+1)=((k:Int)+1):=ZS (n:=t.size) (by omega) (by omega) (by omega)
          refine JE (fun hb2 => ?_) (fun hb2 => ?_)
          · refine YZ (h:=QC .u8) (t[k].toNat:Int) (HU Tryz.underlying9 t k (by omega) (by omega)) ?_
            refine WO ?_
            rw[hw]
            refine hag (n - 1) (IJ (t[k].toNat:Int),(k:Int)+1) w (by omega) ⟨h,k+1,by simp,by omega,?_⟩
            rw[htake,List.all_append]
            rw[hall] at hb2
            simp only[Bool.and_eq_true] at hb2
            simp[hb2.1,hb2.2]
          · rw[hw]
            refine hag (n - 1) (false,(k:Int)+1) w (by omega) ⟨h,k+1,by simp,by omega,?_⟩
            rw[htake,List.all_append,← Bool.and_assoc,← hall,hb2];rfl
        · have hk':k=t.size:=by simp at hb1;omega
          have hfull:y1=(x && Arx t):=by
            rw[hall,hk',← htl,List.take_length];rfl
          rw[hfull]
          have k2:∀ {w:World} {s1:LS},LM e w s1 l→s1.toks.length≤2147483000→(∀ w',LM e w' (s1.add 3 t a) l→K (e0:Int) w')→AM (Rt (QC .i64) K) (some ⟨e.bs,0,none⟩) (a:Int) (e0:Int) t w:=by
            intro w s1 h ht c
            unfold AM
            exact h.add (by omega) _ _ _ fun w h=>Rt.mk (h:=QC .i64) _ (c w h)
          refine JE (fun hb2 => ?_) (fun hb2 => ?_)
          · rw[if_neg (bnt hb2)] at c
            exact h.fault _ _ fun w h=>k2 h ht c
          · rw[if_pos (bnf hb2)] at c
            exact k2 h ht c
      refine JE (fun hb1 => ?_) (fun hb1 => ?_)
      · refine JE (fun hb2 => ?_) (fun hb2 => ?_)
        · exact k1 true h (by rw[hb1,hb2];rfl)
        · exact k1 _ h (by rw[hb1,hb2];rfl)
      · exact k1 false h (by rw[hb1];rfl)
    rw[if_neg (ne_true_of_eq_false hb)] at c
    have b3:∀ {w:World},LM e w s l→(ZR e.S a==39 || ZR e.S a==34)=true→AK (Rt (QC .i64) K) (some ⟨e.bs,0,none⟩) (a:Int) w:=by
      intro w h hq
      rw[if_pos hq] at c
      unfold AK
      refine JM rfl (h.srcGet (Ag7 Ana (by omega) (by omega) ?_))
      have hfrom:(e.src.from_ (a:Int).toNat 1).v = .slice (if e.src.c=a then e.src.a else e.src.a.map (·.add (a * 1))) (e.S.size - a) (e.src.c - a):=by
        simp[Sl.from_,Sl.v,hSn]
      rw[hfrom]
      refine h.src.text (i:=a) (j:=e.S.size) (by omega) (Nat.le_refl _) rfl ?_
      have hsz:(e.S.extract a e.S.size).size≤65536:=by rw[HK _ (by omega) (Nat.le_refl _)];omega
      have hul:=hu.len (e.S.extract a e.S.size)
      refine hu.run hsz fun w1 e1 => ?_
      replace h:=h.ext e1
      generalize unq (e.S.extract a e.S.size)=u at c hul
      have k4:∀ {w:World} {s1:LS},LM e w s1 l→s1.toks.length≤2147483000→(∀ w',LM e w' (s1.add 4 u.1 a) l→K ((a+u.2.1:Nat):Int) w')→AN (Rt (QC .i64) K) (some ⟨e.bs,0,none⟩) (a:Int) u.1 (u.2.1:Int) w:=by
        intro w s1 h ht c
        unfold AN
        refine h.add (by omega) _ _ _ fun w h=>Rt.mk (h:=QC .i64) _ ?_
        have:IntKind.i64.wrap ((a:Int)+(u.2.1:Int))=((a+u.2.1:Nat):Int):=by rw[JY (by omega) (by omega)];omega
        rw[this];exact c w h
      refine JE (fun hb1 => ?_) (fun hb1 => ?_)
      · rw[if_pos hb1] at c
        exact h.fault _ _ fun w h=>k4 h ht c
      · rw[if_neg (ne_true_of_eq_false hb1)] at c
        exact k4 h ht c
    refine JE (fun hb1 => ?_) (fun hb1 => ?_)
    · exact b3 h (by rw[hb1];rfl)
    refine JE (fun hb2 => ?_) (fun hb2 => ?_)
    · exact b3 h (by rw[hb2];simp)
    rw[if_neg (by rw[hb1,hb2];decide)] at c
    unfold KW
    refine JM rfl (h.srcGet (AsS h.src hlen ha fun w1 e1 => ?_))
    replace h:=h.ext e1
    have hgs:(DG e.S a AI).size≤3:=by
      have:∀ l:List ByteArray,(∀ t∈l,t.size≤3)→(DG e.S a l).size≤3:=by
        intro l
        induction l with
        | nil=>intro _;show(⟨#[]⟩:ByteArray).size≤3;decide
        | cons t l ih=>
          intro ht
          rw[Aa4]
          split
          · exact ht t (by simp)
          · exact ih fun x hx=>ht x (by simp[hx])
      exact this AI (by decide)
    generalize DG e.S a AI=g at c hgs
    refine JE (fun hb3 => ?_) (fun hb3 => ?_)
    · rw[if_pos hb3] at c
      exact h.fault _ _ fun w h=>Rt.mk (h:=QC .i64) _ (c w h)
    rw[if_neg (ne_true_of_eq_false hb3)] at c
    have k6:∀ {w:World} (x:Bool),LM e w s l→x=(g.toList==(⟨#[40]⟩:ByteArray).toList || (g.toList==(⟨#[91]⟩:ByteArray).toList || g.toList==(⟨#[123]⟩:ByteArray).toList))→GZ (Rt (QC .i64) K) (some ⟨e.bs,0,none⟩) (a:Int) g g x w:=by
      intro w x h hx
      rw[← hx] at c
      unfold GZ
      have ho0:=ho.o0
      have ho1:=ho.o1
      refine JE (fun hb4 => ?_) (fun hb4 => ?_)
      · rw[if_pos hb4] at c
        have k7:∀ {w:World} {s1:LS},LM e w s1 l→s1.opn=s.opn→s1.toks.length≤2147483000→(∀ w',LM e w' ((s1.setOpn (s.opn+1)).add 5 g a) l→K ((a+g.size:Nat):Int) w')→AO (Rt (QC .i64) K) (some ⟨e.bs,0,none⟩) (a:Int) g w:=by
          intro w s1 h hop ht c
          unfold AO
          refine JM rfl (h.opnGet (JM rfl ?_))
          rw[hop,JY (by omega) (by omega)]
          exact h.opnSet _ fun w h=>k8 h ht (by omega) c
        refine JM rfl (h.opnGet (JE (fun hb5 => ?_) (fun hb5 => ?_)))
        · rw[if_pos (by simpa using hb5)] at c
          exact h.fault _ _ fun w h=>k7 h rfl ht c
        · rw[if_neg (by simpa using hb5)] at c
          exact k7 h rfl ht c
      · rw[if_neg (ne_true_of_eq_false hb4)] at c
        have k9:∀ {w:World} (x:Bool),LM e w s l→x=(g.toList==(⟨#[41]⟩:ByteArray).toList || (g.toList==(⟨#[93]⟩:ByteArray).toList || g.toList==(⟨#[125]⟩:ByteArray).toList))→DA (Rt (QC .i64) K) (some ⟨e.bs,0,none⟩) (a:Int) g x w:=by
          intro w x h hx
          rw[← hx] at c
          unfold DA
          refine JE (fun hb5 => ?_) (fun hb5 => ?_)
          · rw[if_pos hb5] at c
            refine JM rfl (h.opnGet (JE (fun hb6 => ?_) (fun hb6 => ?_)))
            · rw[if_pos (by simpa using hb6)] at c
              refine JM rfl (h.opnGet (JM rfl ?_))
              rw[JY (by omega) (by omega)]
              exact h.opnSet _ fun w h=>k8 h ht (by omega) c
            · rw[if_neg (by simpa using hb6)] at c
              exact k8 h ht (by omega) c
          · rw[if_neg (ne_true_of_eq_false hb5)] at c
            exact k8 h ht (by omega) c
        refine JE (fun hb5 => ?_) (fun hb5 => ?_)
        · exact k9 _ h (by rw[hb5];rfl)
        · refine JE (fun hb6 => ?_) (fun hb6 => ?_)
          · exact k9 _ h (by rw[hb5,hb6];rfl)
          · exact k9 _ h (by rw[hb5,hb6];rfl)
    refine JE (fun hb4 => ?_) (fun hb4 => ?_)
    · exact k6 _ h (by rw[hb4];rfl)
    · refine JE (fun hb5 => ?_) (fun hb5 => ?_)
      · exact k6 _ h (by rw[hb4,hb5];rfl)
      · exact k6 _ h (by rw[hb4,hb5];rfl)
  refine YE (fun n y w'=>LM e w' s l∧∃ k:Nat,y=k∧n+k=e.S.size∧a≤k∧OW e.S (e.S.size - k) k=OW e.S (e.S.size - a) a) (e.S.size - a) (a:Int) rfl ⟨h,a,rfl,by omega,Nat.le_refl _,rfl⟩ ?_
  clear h
  rintro n y w ⟨h,k,rfl,hk,hak,hend⟩ again hag
  refine JM rfl (h.srcGet (JE (fun hb => ?_) (fun hb => ?_)))
  · have hlt:k<e.S.size:=by simp at hb;omega
    rw[Apj e.S hlt] at hend
    have hw:IntKind.i64.wrap ((k:Int)+1)=((k:Int)+1):=ZS (n:=e.S.size) (by omega) (by omega) (by omega)
    refine JM rfl (h.srcGet (h.src.byte hlt (AcW (JE (fun hb1 => ?_) (fun hb1 => ?_)))))
    · rw[if_pos (by unfold ldC;rw[hb1];rfl)] at hend
      rw[hw]
      exact hag (n - 1) ((k:Int)+1) w (by omega) ⟨h,k+1,by simp,by omega,by omega,hend⟩
    · refine JM rfl (h.srcGet (h.src.byte hlt (WO (JE (fun hb2 => ?_) (fun hb2 => ?_)))))
      · rw[if_pos (by unfold ldC;rw[hb2];simp)] at hend
        rw[hw]
        exact hag (n - 1) ((k:Int)+1) w (by omega) ⟨h,k+1,by simp,by omega,by omega,hend⟩
      · rw[if_neg (by unfold ldC;rw[hb1,hb2];decide)] at hend
        exact k0 h hak (by omega) hend.symm
  · have hk':k=e.S.size:=by simp at hb;omega
    subst hk'
    rw[Nat.sub_self] at hend
    exact k0 h hak (Nat.le_refl _) hend.symm
end
end Go.Proofs.YtjiagmjfnbljjaaGreatDoor
end
section
namespace Go.Proofs.YtjiagmjfnbljjaaGreatDoor
open Go
set_option maxHeartbeats 4000000
set_option linter.unusedVariables false
set_option linter.unusedSimpArgs false
theorem AkM(n a:Int):∀ (ds:List Int) (s:LS),0≤n→s.deep=ds→(∃ d,ds=d ++ [0])→(∃ d,(Aa2 n a ds s).deep=d ++ [0])∧(Aa2 n a ds s).deep.length≤ds.length∧(Aa2 n a ds s).opn=s.opn∧(Aa2 n a ds s).toks.length≤s.toks.length+ds.length
  | [],s,_,_,h=>by obtain⟨d,h⟩:=h;simp at h
  | d :: ds,s,hn,hd,h=>by
    show(∃ d',(if n<d then Aa2 n a ds ((s.setDeep ds).add 8 (⟨#[]⟩:ByteArray) a) else if n != d then s.fault 103 a else s).deep=d' ++ [0])∧(if n<d then Aa2 n a ds ((s.setDeep ds).add 8 (⟨#[]⟩:ByteArray) a) else if n != d then s.fault 103 a else s).deep.length≤_∧(if n<d then Aa2 n a ds ((s.setDeep ds).add 8 (⟨#[]⟩:ByteArray) a) else if n != d then s.fault 103 a else s).opn=_∧(if n<d then Aa2 n a ds ((s.setDeep ds).add 8 (⟨#[]⟩:ByteArray) a) else if n != d then s.fault 103 a else s).toks.length≤_
    split
    · rename_i hlt
      have h2:∃ d,ds=d ++ [0]:=by
        obtain⟨e,he⟩:=h
        cases e with
        | nil=>simp at he;omega
        | cons x y=>simp at he;exact⟨y,he.2⟩
      obtain⟨h3,h4,h5,h6⟩:=AkM n a ds ((s.setDeep ds).add 8 (⟨#[]⟩:ByteArray) a) hn rfl h2
      refine⟨h3,by simp only[List.length_cons];omega,h5,?_⟩
      simp only[LS.add,LS.setDeep,List.length_append,List.length_cons,List.length_nil] at h6 ⊢
      omega
    · obtain⟨e,he⟩:=h
      split
      · exact⟨⟨e,by show s.deep=_;rw[hd,he]⟩,by show s.deep.length≤_;rw[hd];exact Nat.le_refl _,rfl,by show s.toks.length≤_;omega⟩
      · exact⟨⟨e,by rw[hd,he]⟩,by rw[hd];exact Nat.le_refl _,rfl,by omega⟩
theorem Ack{s:LS}(h:Ado s){n:Int}(hn:0≤n)(a:Int):Ado (EF n a s)∧(EF n a s).toks.length≤s.toks.length+41:=by
  have hd:=h.dlen
  unfold EF
  split
  · split
    · exact⟨⟨h.deep,h.dlen,h.o0,h.o1⟩,by show s.toks.length≤_;omega⟩
    · obtain⟨d,hd⟩:=h.deep
      refine⟨⟨⟨n :: d,by simp[LS.add,LS.setDeep,hd]⟩,by simp only[LS.add,LS.setDeep,List.length_cons];omega,h.o0,h.o1⟩,?_⟩
      simp[LS.add,LS.setDeep]
  · obtain⟨h1,h2,h3,h4⟩:=AkM n a s.deep s hn rfl h.deep
    exact⟨⟨h1,by omega,by rw[h3];exact h.o0,by rw[h3];exact h.o1⟩,by omega⟩
theorem AcL{unq:ByteArray→ByteArray×Nat×Int}(hu:Aj1 unq){S:ByteArray}{a:Nat}(ha:a<S.size){s:LS}(h:Ado s)(hc:s.code=0):(UU unq S a s).2.toks.length≤s.toks.length+1∧(UU unq S a s).1≤S.size∧((UU unq S a s).2.code=0→Ado (UU unq S a s).2):=by
  have hw:=Agu S (S.size - a) a
  have hl:=hu.len (S.extract a S.size)
  have hul:(S.extract a S.size).size=S.size - a:=HK S (by omega) (Nat.le_refl _)
  have hg:∀ l:List ByteArray,(DG S a l).toList = []∨a+(DG S a l).size≤S.size:=by
    intro l
    induction l with
    | nil=>left;show(⟨#[]⟩:ByteArray).toList = [];exact BF
    | cons t l ih=>
      rw[Aa4]
      split
      · rename_i hb
        right
        simp only[Bool.and_eq_true,decide_eq_true_eq] at hb
        exact hb.1
      · exact ih
  have hg0:=hg AI
  unfold UU
  dsimp only
  have ho0:=h.o0
  have ho1:=h.o1
  split
  · refine⟨by simp[LS.add],by simp only;omega,fun _=>⟨h.deep,h.dlen,h.o0,h.o1⟩⟩
  split
  · refine⟨?_,by simp only;omega,fun _ => ?_⟩
    · split<;>simp[LS.add,LS.fault]
    · split<;>exact⟨h.deep,h.dlen,h.o0,h.o1⟩
  split
  · refine⟨?_,by simp only;omega,fun _ => ?_⟩
    · split<;>simp[LS.add,LS.fault]
    · split<;>exact⟨h.deep,h.dlen,h.o0,h.o1⟩
  split
  · refine⟨by simp[LS.fault],by simp only;omega,fun _=>⟨h.deep,h.dlen,h.o0,h.o1⟩⟩
  rename_i hne
  have hle:a+(DG S a AI).size≤S.size:=by
    rcases hg0 with h0 | h0
    · rw[h0] at hne
      exact absurd (by rw[BF];rfl) hne
    · exact h0
  split
  · refine⟨?_,by simp only;omega,fun hcode => ?_⟩
    · split<;>simp[LS.add,LS.fault,LS.setOpn]
    · split at hcode
      · simp[LS.add,LS.fault,LS.setOpn] at hcode
      · rename_i h60
        rw[if_neg h60]
        exact⟨h.deep,h.dlen,by simp only[LS.add,LS.setOpn];omega,by simp only[LS.add,LS.setOpn];omega⟩
  split
  · refine⟨?_,by simp only;omega,fun _ => ?_⟩
    · split<;>simp[LS.add,LS.setOpn]
    · split
      · exact⟨h.deep,h.dlen,by simp only[LS.add,LS.setOpn];omega,by simp only[LS.add,LS.setOpn];omega⟩
      · exact⟨h.deep,h.dlen,h.o0,h.o1⟩
  · exact⟨by simp[LS.add],by simp only;omega,fun _=>⟨h.deep,h.dlen,h.o0,h.o1⟩⟩
section
variable{e:Le}{w w':World}{s:LS}{l:List En}{unq:ByteArray→ByteArray×Nat×Int}
theorem LM.deepGet{K:Sl→World→Prop}(h:LM e w s l)(c:∀ dr:Sl,dr.n=s.deep.length→K dr w):Aha ((⟨e.bs,0,none⟩:Addr).add 2) K w:=by
  obtain⟨lr,dr,h⟩:=h
  exact Af8 (LMs.cells h 2 _ rfl) (c dr (LMs.dn h))
theorem Al2:∀ (l:List Tk) (i j:Nat) (x:Tk),l[i]? = some x→j<3→(l.flatMap fun t=>t.cells.toList)[i * 3+j]? = x.cells.toList[j]?
  | [],i,j,x,h,_=>by simp at h
  | y :: l,0,j,x,h,hj=>by
    simp only[List.getElem?_cons_zero,Option.some.injEq] at h
    subst h
    have:y.cells.toList.length=3:=rfl
    simp only[List.flatMap_cons,Nat.zero_mul,Nat.zero_add]
    rw[List.getElem?_append_left (by omega)]
  | y :: l,i+1,j,x,h,hj=>by
    have hy:y.cells.toList.length=3:=rfl
    simp only[List.getElem?_cons_succ] at h
    simp only[List.flatMap_cons]
    rw[List.getElem?_append_right (by omega),hy,← Al2 l i j x h hj]
    congr 1;omega
theorem LMs.tk{lr dr:Sl}(h:LMs e w lr dr s l)(hlen:s.toks.length≤2147483648):Anq w lr s.toks:=by
  refine⟨h.ln,hlen,fun i t hi => ?_⟩
  have hown:Own w e.w0.heap.size 131 3 lr (AcS s.toks):=Mz.ok (X:=XL e.w0) h (e:=.row 131 3 lr (AcS s.toks)) JR
  have hln:=h.ln
  have hlt:=(List.getElem?_eq_some_iff.1 hi).1
  have hc:=hown.cells
  cases ha:lr.a with
  | none=>have:=(hc.1 ha).1;omega
  | some a=>
    refine⟨a,rfl,fun j v hj => ?_⟩
    have hj3:j<3:=(List.getElem?_eq_some_iff.1 hj).1
    rw[II]
    refine hc.2 a ha _ _ ?_
    rw[show AcS s.toks=s.toks.flatMap (fun t=>t.cells.toList) from rfl,Al2 s.toks i j t hi hj3]
    exact hj
end
theorem Ap8{w:World}{src:Sl}{S:ByteArray}{unq:ByteArray→ByteArray×Nat×Int}(hu:Aj1 unq)(hS:Adp w src S){out:List Tk×Int×Int}(hm:AaJ unq S=some out){K:XE→World→Prop}
    (hK:∀ x w',Ext w w'→x.x1=⟨out.2.1,out.2.2⟩→Anq w' x.x0 out.1→out.1.length≤4000000→K x w'):TE src K w:=by
  refine Agw _ _ _ ?_
  unfold AdL
  intro r1 w1 h1
  have ha1:=h1.addr
  subst ha1
  unfold AaJ at hm
  have hSn:=hS.n
  have nilT:∀ w:World,Anq w ⟨none,0,0⟩ []:=fun w=>⟨rfl,by decide,fun i t hi=>by simp at hi⟩
  refine JE (fun hb => ?_) (fun hb => ?_)
  · rw[if_pos (by simp at hb;omega)] at hm
    cases hm
    refine YH h1.get (by simp) fun w2 h2 => ?_
    have hpc:ZI #[.int .i64 0,.int .i64 0] 0 (QI.cells ⟨101,65536⟩).toList=QI.cells ⟨101,65536⟩:=QH rfl
    rw[hpc] at h2
    refine UH (.all (h2.get (ZC h1.get))) (Rt.mk (h:=YD) ⟨⟨none,0,0⟩,⟨101,65536⟩⟩ (hK _ w2 (h1.fr.set (Nat.le_refl _) h2) rfl (nilT _) (by decide)))
  · rw[if_neg (by simp at hb;omega)] at hm
    have hlen:S.size≤65536:=by simp at hb;omega
    obtain⟨res,hres,hout⟩:=Option.map_eq_some_iff.1 hm
    clear hm
    intro a3 w3 h3 a4 w4 h4
    have ha3:=h3.addr
    have ha4:=h4.addr
    subst ha3 ha4
    let e:Le:=⟨w,src,S,w3.heap.size,hS,hlen⟩
    have hX:(XL w).p (fun _=>False) w:=Ext.refl w
    have hm0:Mz w.heap.size (XL w) w []:=⟨_,Mx.nil (Nat.le_refl _),hX⟩
    have hm2:=((hm0.new h1).new h3).row (n:=1) (sz:=1) rfl (by decide)
    have hm4:=(hm2.new h4).nil_row 131 3
    have h0:LM e w4 ⟨[],[0],0,0,0⟩ [.box w.heap.size (.cells #[.int .i64 0,.int .i64 0] 32)]:=
      ⟨⟨none,0,0⟩,⟨some ⟨w1.heap.size,0,none⟩,1,1⟩,hm4.perm (.cons _ (.swap _ _ _))⟩
    have hbs:(⟨w3.heap.size,0,none⟩:Addr)=⟨e.bs,0,none⟩:=rfl
    rw[hbs]
    generalize hb0:w.heap.size=b1 at h0 ⊢
    have eS:e.S=S:=rfl
    have esrc:e.src=src:=rfl
    have setF:∀ {w':World} {s:LS} {cs:Array Value} (c a:Int) {K2:World→Prop},LM e w' s [.box b1 (.cells cs 32)]→cs.size=2→(∀ w'',LM e w'' s [.box b1 (.cells (QI.cells ⟨c,a⟩) 32)]→K2 w'')→ZO ⟨b1,0,none⟩ ⟨c,a⟩ K2 w':=by
      intro w' s cs c a K2 h hcs hk
      obtain⟨lr,dr,h⟩:=h
      refine YH (h.heap QQ) (by omega) fun w'' h''=>hk w'' ⟨lr,dr,?_⟩
      rw[QH (hcs.trans rfl)] at h''
      exact h.set (k:=3) rfl h''
    have getF:∀ {w':World} {s:LS} {x:QI},LM e w' s [.box b1 (.cells x.cells 32)]→JD w' ⟨b1,0,none⟩ x.cells.toList:=by
      intro w' s x h
      obtain⟨lr,dr,h⟩:=h
      exact .all (h.heap QQ)
    refine YE (fun n x w'=>∃ (a b:Nat) (s:LS),x.1=a∧x.2.1=b∧LM e w' s [.box b1 (.cells #[.int .i64 0,.int .i64 0] 32)]∧Ado s∧s.code=0∧a≤S.size∧b≤a∧s.toks.length+50 * n≤3999000∧Acu unq S n a b x.2.2 s=some res) (S.size+1) (0,0,true) rfl ⟨0,0,_,rfl,rfl,h0,⟨⟨[],rfl⟩,by decide,by decide,by decide⟩,rfl,Nat.zero_le _,Nat.le_refl _,by simp only[List.length_nil];omega,hres⟩ ?_
    clear h0 hres
    rintro n ⟨x1,x2,head⟩ w5 ⟨a,b,s,hx1,hx2,h,ho,hcode,haS,hba,hbound,hm⟩ again hag
    dsimp only at hx1 hx2 hm hag ⊢
    subst hx1 hx2
    cases n with
    | zero=>cases hm
    | succ n=>
      unfold Acu at hm
      refine JE (fun hb1 => ?_) (fun hb1 => ?_)
      · have ha:a<S.size:=by simp at hb1;omega
        rw[if_pos ha] at hm
        have hsrc:Adp w5 src S:=h.src
        refine hsrc.byte ha ?_
        have hw1:IntKind.i64.wrap ((a:Int)+1)=((a+1:Nat):Int):=by rw[JY (by omega) (by omega)];omega
        have hw2:IntKind.i64.wrap ((b:Int)+1)=((b+1:Nat):Int):=by rw[JY (by omega) (by omega)];omega
        refine JE (fun hb2 => ?_) (fun hb2 => ?_)
        · rw[if_pos hb2] at hm
          refine YE (fun m y w'=>LM e w' s [.box b1 (.cells #[.int .i64 0,.int .i64 0] 32)]∧∃ k:Nat,y=k∧m+k=S.size∧a≤k∧HM S (S.size - k) k=HM S (S.size - a) a) (S.size - a) (a:Int) rfl ⟨h,a,rfl,by omega,Nat.le_refl _,rfl⟩ ?_
          clear h
          rintro m y w6 ⟨h,k,rfl,hk,hak,hend⟩ again2 hag2
          have fin:∀ {w':World},LM e w' s [.box b1 (.cells #[.int .i64 0,.int .i64 0] 32)]→k=HM S (S.size - a) a→again [.int .i64 (k:Int),.int .i64 (b:Int),.bool head] w':=by
            intro w' h hk
            rw[← hk] at hm
            exact hag n ((k:Int),(b:Int),head) w' (Nat.lt_succ_self _) ⟨k,b,s,rfl,rfl,h,ho,hcode,by omega,by omega,by omega,hm⟩
          refine JE (fun hb3 => ?_) (fun hb3 => ?_)
          · have hkS:k<S.size:=by simp at hb3;omega
            have hsrc:Adp w6 src S:=h.src
            rw[AoS S hkS] at hend
            refine hsrc.byte hkS (JE (fun hb4 => ?_) (fun hb4 => ?_))
            · rw[if_pos hb4] at hend
              rw[show IntKind.i64.wrap ((k:Int)+1)=((k+1:Nat):Int) by rw[JY (by omega) (by omega)];omega]
              exact hag2 (m - 1) ((k+1:Nat):Int) w6 (by omega) ⟨h,k+1,rfl,by omega,by omega,hend⟩
            · rw[if_neg (ne_true_of_eq_false hb4)] at hend
              exact fin h hend
          · have hkS:k=S.size:=by simp at hb3;omega
            rw[hkS,Nat.sub_self] at hend
            exact fin h (by rw[hkS];exact hend)
        rw[if_neg (ne_true_of_eq_false hb2)] at hm
        refine JE (fun hb3 => ?_) (fun hb3 => ?_)
        · rw[if_pos hb3] at hm
          rw[hw1,hw2]
          exact hag n (((a+1:Nat):Int),((b+1:Nat):Int),head) w5 (Nat.lt_succ_self _) ⟨a+1,b+1,s,rfl,rfl,h,ho,hcode,by omega,by omega,by omega,hm⟩
        rw[if_neg (ne_true_of_eq_false hb3)] at hm
        refine JE (fun hb4 => ?_) (fun hb4 => ?_)
        · rw[if_pos hb4] at hm
          have k0:∀ {w':World} {s1:LS},LM e w' s1 [.box b1 (.cells #[.int .i64 0,.int .i64 0] 32)]→s1=(if (s.opn==0 && !head)=true then s.add 6 (⟨#[]⟩:ByteArray) a else s)→HF again (some ⟨e.bs,0,none⟩) (a:Int) head w':=by
            intro w' s1 h hs1
            rw[← hs1] at hm
            have hop:s1.opn=s.opn:=by rw[hs1];split<;>rfl
            have hok:Ado s1:=by rw[hs1];split<;>exact⟨ho.deep,ho.dlen,ho.o0,ho.o1⟩
            have hc1:s1.code=0:=by rw[hs1];split<;>exact hcode
            have ht1:s1.toks.length≤s.toks.length+1:=by rw[hs1];split<;>simp[LS.add]
            unfold HF
            refine JM rfl (h.opnGet ?_)
            rw[hop,hw1]
            refine JE (fun hb5 => ?_) (fun hb5 => ?_)
            · rw[if_pos hb5] at hm
              exact hag n (((a+1:Nat):Int),((0:Nat):Int),true) w' (Nat.lt_succ_self _) ⟨a+1,0,s1,rfl,rfl,h,hok,hc1,by omega,by omega,by omega,hm⟩
            · rw[if_neg (ne_true_of_eq_false hb5)] at hm
              exact hag n (((a+1:Nat):Int),((0:Nat):Int),head) w' (Nat.lt_succ_self _) ⟨a+1,0,s1,rfl,rfl,h,hok,hc1,by omega,by omega,by omega,hm⟩
          refine h.opnGet (JE (fun hb5 => ?_) (fun hb5 => ?_))
          · refine JE (fun hb6 => ?_) (fun hb6 => ?_)
            · exact h.add (by omega) _ _ _ fun w' h=>k0 h (by rw[if_pos (by rw[hb5,hb6];rfl)])
            · exact k0 h (by rw[if_neg (by rw[hb6];simp)])
          · exact k0 h (by rw[if_neg (by rw[hb5];simp)])
        rw[if_neg (ne_true_of_eq_false hb4)] at hm
        dsimp only at hm
        have k2:∀ {w':World} {s2:LS} {a2:Nat},LM e w' s2 [.box b1 (.cells #[.int .i64 0,.int .i64 0] 32)]→(s2.code=0→Ado s2∧a2≤S.size∧b≤a2∧s2.toks.length+50 * n≤3999000)→(if (s2.code != 0)=true then some s2 else Acu unq S n a2 b false s2)=some res→ON (Rt YD K) again ⟨b1,0,none⟩ (some ⟨e.bs,0,none⟩) (a2:Int) (b:Int) false w':=by
          intro w' s2 a2 h hok hm
          unfold ON
          refine JM rfl (h.codeGet (JE (fun hb5 => ?_) (fun hb5 => ?_)))
          · rw[if_pos hb5] at hm
            have hr:res=s2:=(Option.some.inj hm).symm
            rw[hr,if_pos hb5] at hout
            intro w7 hw7
            replace h:=h.ext hw7.fr
            obtain⟨lr,dr,h⟩:=h
            have hs:LMs e w7 lr dr s2 _:=h
            refine⟨fun w''=>JD w'' ⟨e.bs,0,none⟩ [e.src.v,lr.v,dr.v,.int .i64 s2.opn,.int .i64 s2.code,.int .i64 s2.at_],hs.cells,JM rfl ?_⟩
            refine CQ (x:=⟨s2.code,s2.at_⟩) (fun w'' hs=>Aah hs 4 fun i v hi => ?_) ?_
            · match i,hi with
              | 0,hi=>exact hi
              | 1,hi=>exact hi
              | n+2,hi=>simp[QI.cells] at hi
            refine setF _ _ ⟨lr,dr,h⟩ rfl fun w' h=>UH (getF h) (Rt.mk (h:=YD) ⟨⟨none,0,0⟩,⟨s2.code,s2.at_⟩⟩ (hK _ w' h.base ?_ ?_ ?_))
            · rw[← hout]
            · rw[← hout];exact nilT _
            · rw[← hout];exact Nat.zero_le _
          · rw[if_neg (ne_true_of_eq_false hb5)] at hm
            have hc2:s2.code=0:=by simpa using hb5
            obtain⟨h1,h2,h3,h4⟩:=hok hc2
            exact hag n ((a2:Int),(b:Int),false) w' (Nat.lt_succ_self _) ⟨a2,b,s2,rfl,rfl,h,h1,hc2,h2,h3,h4,hm⟩
        have k1:∀ {w':World} {s1:LS},LM e w' s1 [.box b1 (.cells #[.int .i64 0,.int .i64 0] 32)]→Ado s1→s1.toks.length≤s.toks.length+41→(if (s1.code==0)=true then(if ((UU unq S a s1).2.code != 0)=true then some (UU unq S a s1).2 else Acu unq S n (UU unq S a s1).1 b false (UU unq S a s1).2) else some s1)=some res→OM (Rt YD K) again ⟨b1,0,none⟩ (some ⟨e.bs,0,none⟩) (a:Int) (b:Int) false w':=by
          intro w' s1 h hok ht1 hm
          unfold OM
          refine JM rfl (h.codeGet (JE (fun hb5 => ?_) (fun hb5 => ?_)))
          · rw[if_pos hb5] at hm
            have hc1:s1.code=0:=by simpa using hb5
            obtain⟨h1,h2,h3⟩:=AcL hu ha hok hc1
            have hmono:b≤(UU unq S a s1).1:=by
              have:a≤(UU unq S a s1).1:=by
                unfold UU
                dsimp only
                have hwl:=Agu S (S.size - a) a
                repeat' split
                all_goals (simp only;omega)
              omega
            have hbd:(UU unq S a s1).2.toks.length+50 * n≤3999000:=by omega
            refine h.token hu hok (by omega) ha fun w' h=>k2 h (fun hc=>⟨h3 hc,h2,hmono,hbd⟩) hm
          · rw[if_neg (ne_true_of_eq_false hb5)] at hm
            have hc1:(s1.code != 0)=true:=by simpa using hb5
            exact k2 h (fun hc=>by rw[hc] at hc1;simp at hc1) (by rw[if_pos hc1];exact hm)
        refine JE (fun hb5 => ?_) (fun hb5 => ?_)
        · rw[if_pos hb5] at hm
          obtain⟨h1,h2⟩:=Ack ho (n:=(b:Int)) (by omega) (a:Int)
          exact h.begin ho (by omega) (by omega) _ fun w' h=>k1 h h1 h2 hm
        · rw[if_neg (ne_true_of_eq_false hb5)] at hm
          have:head=false:=hb5
          subst this
          exact k1 h ho (by omega) hm
      · have ha:¬ a<S.size:=by simp at hb1;omega
        rw[if_neg ha] at hm
        have hr:res=s:=(Option.some.inj hm).symm
        rw[hr,if_neg (by rw[hcode];decide)] at hout
        have k4:∀ {w':World} {s1:LS},LM e w' s1 [.box b1 (.cells #[.int .i64 0,.int .i64 0] 32)]→s1.deep=s.deep→s1.toks.length≤s.toks.length+1→s1=(if (CG s.toks != 6 && (CG s.toks != 7 && CG s.toks != 8))=true then s.add 6 (⟨#[]⟩:ByteArray) S.size else s)→UW (Rt YD K) src ⟨b1,0,none⟩ (some ⟨e.bs,0,none⟩) w':=by
          intro w' s1 h hdeep ht1 hs1
          unfold Aei at hout
          dsimp only at hout
          rw[← hs1] at hout
          unfold UW
          obtain⟨d0,hd0⟩:=ho.deep
          have hdl:=ho.dlen
          have hd1:1≤s.deep.length:=by rw[hd0];simp
          refine YE (fun m x w'=>∃ (k:Nat) (s2:LS),x=k∧m+k=s.deep.length∧1≤k∧LM e w' s2 [.box b1 (.cells #[.int .i64 0,.int .i64 0] 32)]∧s2.deep=s.deep∧s2.toks.length+1≤s1.toks.length+k∧LI S.size (s.deep.length - k) s2=LI S.size (s.deep.length - 1) s1) (s.deep.length - 1) (1:Int) rfl ⟨1,s1,rfl,by omega,Nat.le_refl _,h,hdeep,by omega,rfl⟩ ?_
          clear h
          rintro m x w6 ⟨k,s2,rfl,hk,hk1,h,hd2,ht2,hded⟩ again2 hag2
          refine JM rfl (h.deepGet fun dr hdr=>JE (fun hb2 => ?_) (fun hb2 => ?_))
          · have hlt:k<s.deep.length:=by rw[hdr,hd2] at hb2;simp at hb2;omega
            rw[hSn]
            refine h.add (by omega) _ _ _ fun w' h => ?_
            rw[show IntKind.i64.wrap ((k:Int)+1)=((k+1:Nat):Int) by rw[JY (by omega) (by omega)];omega]
            refine hag2 (m - 1) ((k+1:Nat):Int) w' (by omega) ⟨k+1,_,rfl,by omega,by omega,h,hd2,by simp[LS.add];omega,?_⟩
            rw[← hded,show s.deep.length - k=(s.deep.length - (k+1))+1 by omega]
            rfl
          · have hge:k=s.deep.length:=by rw[hdr,hd2] at hb2;simp at hb2;omega
            rw[hge,Nat.sub_self] at hded
            replace hded:s2=LI S.size (s.deep.length - 1) s1:=hded
            rw[hdeep,← hded] at hout
            rw[hSn]
            have hbnd:(s2.add 9 (⟨#[]⟩:ByteArray) S.size).toks.length≤4000000:=by simp[LS.add];omega
            refine h.add (by omega) _ _ _ fun w' h=>JM rfl ?_
            obtain⟨lr,dr,h⟩:=h
            have hs:LMs e w' lr dr _ _:=h
            refine CR (hs.cells 1 _ rfl) (YH (h.heap QQ) (by simp) fun w'' h'' => ?_)
            have hpc:ZI #[.int .i64 0,.int .i64 0] 0 (QI.cells ⟨0,0⟩).toList=QI.cells ⟨0,0⟩:=QH rfl
            rw[hpc] at h''
            have h2:=h.set (k:=3) rfl h''
            have hs2:LMs e w'' lr dr (s2.add 9 (⟨#[]⟩:ByteArray) S.size) [.box b1 (.cells (QI.cells ⟨0,0⟩) 32)]:=h2
            have h3:LM e w'' (s2.add 9 (⟨#[]⟩:ByteArray) S.size) [.box b1 (.cells (QI.cells ⟨0,0⟩) 32)]:=⟨lr,dr,h2⟩
            refine UH (getF h3) (Rt.mk (h:=YD) ⟨lr,⟨0,0⟩⟩ (hK _ w'' h3.base ?_ ?_ ?_))
            · rw[← hout]
            · rw[← hout]
              exact hs2.tk (by omega)
            · rw[← hout];exact hbnd
        have k4':=@k4
        obtain⟨lr,dr,hL⟩:=h
        have hs:LMs e w5 lr dr s _:=hL
        have hln:=hs.ln
        have htk:=hs.tk (by omega)
        have h:LM e w5 s [.box b1 (.cells #[.int .i64 0,.int .i64 0] 32)]:=⟨lr,dr,hL⟩
        have h1:(⟨w3.heap.size,0,none⟩:Addr)=⟨e.bs,0,none⟩:=rfl
        refine CR (hs.cells 1 _ rfl) (JE (fun hb2 => ?_) (fun hb2 => ?_))
        · have hpos:0<s.toks.length:=by simp at hb2;omega
          have hlast:s.toks[s.toks.length - 1]? = some s.toks[s.toks.length - 1]:=List.getElem?_eq_getElem (by omega)
          have hlk:CG s.toks=(s.toks[s.toks.length - 1]).Kind:=by
            unfold CG
            rw[List.getLast?_eq_getElem?,hlast]
          have hw:IntKind.i64.wrap ((lr.n:Int) - 1)=((s.toks.length - 1:Nat):Int):=by rw[JY (by omega) (by omega)];omega
          intro w7 hw7
          replace h:=h.ext hw7.fr
          replace hL:=hL.ext hw7.fr
          refine⟨fun w''=>LMs e w'' lr dr s [.box b1 (.cells #[.int .i64 0,.int .i64 0] 32)],hL,?_⟩
          refine MV (x:=lr) (fun w'' h'=>h'.cells 1 _ rfl) (MV (x:=lr) (fun w'' h'=>h'.cells 1 _ rfl) ?_)
          rw[hw]
          obtain⟨al,hal,_⟩:=htk.cells _ _ hlast
          refine JM hal ⟨by omega,by omega,JV (x:=(s.toks[s.toks.length - 1]).Kind) (fun w'' h' => ?_) ?_⟩
          · obtain⟨al',hal',hc⟩:=(h'.tk (by omega)).cells _ _ hlast
            rw[hal] at hal'
            cases hal'
            have h0:=hc 0 _ rfl
            rw[JP] at h0
            simpa using h0
          rw[← hlk]
          have no:∀ {w':World},LM e w' s [.box b1 (.cells #[.int .i64 0,.int .i64 0] 32)]→(CG s.toks != 6 && (CG s.toks != 7 && CG s.toks != 8))=false→UW (Rt YD K) src ⟨b1,0,none⟩ (some ⟨e.bs,0,none⟩) w':=fun h hf=>k4 h rfl (by omega) (by rw[if_neg (ne_true_of_eq_false hf)])
          refine JE (fun hb3 => ?_) (fun hb3=>no h (by rw[hb3];rfl))
          refine JE (fun hb4 => ?_) (fun hb4=>no h (by rw[hb4];simp))
          refine JE (fun hb5 => ?_) (fun hb5=>no h (by rw[hb5];simp))
          unfold Aan
          rw[hSn]
          exact h.add (by omega) _ _ _ fun w' h=>k4 h rfl (by simp[LS.add]) (by rw[if_pos (by rw[hb3,hb4,hb5];rfl)])
        · have hnil:s.toks = []:=List.eq_nil_of_length_eq_zero (by simp at hb2;omega)
          exact k4 h rfl (by omega) (by rw[if_neg (by rw[hnil];decide)])
end Go.Proofs.YtjiagmjfnbljjaaGreatDoor
end
