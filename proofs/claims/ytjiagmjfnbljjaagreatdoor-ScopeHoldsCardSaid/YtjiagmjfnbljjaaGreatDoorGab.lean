/- Lemmas for the statement proved in the last of these texts: part 2 of 25. Conditions: none. -/
import Derived.Test.YtjiagmjfnbljjaaGreatDoorGaa
import Derived.Test.YtjiagmjfnbljjaaGreatDoorProg
import Derived.KernelRfl
section
namespace Go.Proofs.YtjiagmjfnbljjaaGreatDoor
open Go
noncomputable section
structure Sl where
  a:Option Addr
  n:Nat
  c:Nat
def Sl.v(x:Sl):Value:=.slice x.a x.n x.c
def QC(k:IntKind):UO:=⟨Int,fun x=>.int k x⟩
def JS:UO:=⟨Bool,fun x=>.bool x⟩
def EB:UO:=⟨ByteArray,fun x=>.string x⟩
def SO:UO:=⟨Option Addr,fun x=>.pointer x⟩
def hSl:UO:=⟨Sl,Sl.v⟩
def Ae7:UO:=⟨Option Nat,fun x=>.map x⟩
def AoK:UO:=⟨Value,fun x=>x⟩
def QK:UO:=⟨Unit,fun _=>.tuple #[]⟩
structure Fv where
  f:Nat
  cap:Array Value
def Fv.v(x:Fv):Value:=.func (.func x.f) #[] x.cap
def hFn:UO:=⟨Fv,Fv.v⟩
structure ZP where
  Neg:Bool
  Mag:Sl
def ZP.cells(x:ZP):Array Value:=#[.bool x.Neg,x.Mag.v]
def ZP.v(x:ZP):Value:=.agg x.cells
def EI:UO:=⟨ZP,ZP.v⟩
structure JA where
  Kind:Int
  At:Int
  Text:ByteArray
  Num_Neg:Bool
  Num_Mag:Sl
  Kids:Sl
def JA.cells(x:JA):Array Value:=#[.int .i64 x.Kind,.int .i64 x.At,.string x.Text,.bool x.Num_Neg,x.Num_Mag.v,x.Kids.v]
def JA.v(x:JA):Value:=.agg x.cells
def JQ:UO:=⟨JA,JA.v⟩
structure QI where
  Code:Int
  At:Int
def QI.cells(x:QI):Array Value:=#[.int .i64 x.Code,.int .i64 x.At]
def QI.v(x:QI):Value:=.agg x.cells
def SM:UO:=⟨QI,QI.v⟩
structure YR where
  x0:Sl
  x1:QI
def YR.v(x:YR):Value:=.tuple #[x.x0.v,x.x1.v]
def XU:UO:=⟨YR,YR.v⟩
structure JL where
  Kind:Int
  At:Int
  Around:Int
  Uses:Sl
  Locals:Int
  Cells:Int
  Frees:Int
def JL.cells(x:JL):Array Value:=#[.int .i64 x.Kind,.int .i64 x.At,.int .i64 x.Around,x.Uses.v,.int .i64 x.Locals,.int .i64 x.Cells,.int .i64 x.Frees]
def JL.v(x:JL):Value:=.agg x.cells
def DC:UO:=⟨JL,JL.v⟩
structure XK where
  Name:ByteArray
  What:Int
  Slot:Int
def XK.cells(x:XK):Array Value:=#[.string x.Name,.int .i64 x.What,.int .i64 x.Slot]
def XK.v(x:XK):Value:=.agg x.cells
def WG:UO:=⟨XK,XK.v⟩
structure ZT where
  x0:JA
  x1:QI
def ZT.v(x:ZT):Value:=.tuple #[x.x0.v,x.x1.v]
def ZQ:UO:=⟨ZT,ZT.v⟩
structure JB where
  s:Int
  loop:Bool
  except:Bool
def JB.cells(x:JB):Array Value:=#[.int .i64 x.s,.bool x.loop,.bool x.except]
def JB.v(x:JB):Value:=.agg x.cells
def DD:UO:=⟨JB,JB.v⟩
structure DI where
  Kind:Int
  At:Int
  Around:Int
  Items:Sl
  Params:Int
  Tries:Int
  Passes:Sl
def DI.cells(x:DI):Array Value:=#[.int .i64 x.Kind,.int .i64 x.At,.int .i64 x.Around,x.Items.v,.int .i64 x.Params,.int .i64 x.Tries,x.Passes.v]
def DI.v(x:DI):Value:=.agg x.cells
def Ad7:UO:=⟨DI,DI.v⟩
structure XE where
  x0:Sl
  x1:QI
def XE.v(x:XE):Value:=.tuple #[x.x0.v,x.x1.v]
def YD:UO:=⟨XE,XE.v⟩
structure UT where
  x0:Int
  x1:Bool
def UT.v(x:UT):Value:=.tuple #[.int .i64 x.x0,.bool x.x1]
def AX:UO:=⟨UT,UT.v⟩
structure UR where
  Name:ByteArray
  At:Int
  Bound:Bool
  Declared:Int
  Param:Bool
def UR.cells(x:UR):Array Value:=#[.string x.Name,.int .i64 x.At,.bool x.Bound,.int .i64 x.Declared,.bool x.Param]
def UR.v(x:UR):Value:=.agg x.cells
def Ad6:UO:=⟨UR,UR.v⟩
structure ID where
  x0:Bool
  x1:Bool
  x2:Int
  x3:Int
def ID.v(x:ID):Value:=.tuple #[.bool x.x0,.bool x.x1,.int .i64 x.x2,.int .i64 x.x3]
def Ad8:UO:=⟨ID,ID.v⟩
structure JN where
  Kind:Int
  Text:ByteArray
  At:Int
def JN.cells(x:JN):Array Value:=#[.int .i64 x.Kind,.string x.Text,.int .i64 x.At]
def JN.v(x:JN):Value:=.agg x.cells
def VT:UO:=⟨JN,JN.v⟩
structure YA where
  text:Value
  kids:Value
def YA.cells(x:YA):Array Value:=#[x.text,x.kids]
def YA.v(x:YA):Value:=.agg x.cells
def AU:UO:=⟨YA,YA.v⟩
structure GI where
  x0:Option Addr
  x1:Bool
def GI.v(x:GI):Value:=.tuple #[.pointer x.x0,.bool x.x1]
def FE:UO:=⟨GI,GI.v⟩
structure UP where
  x0:ByteArray
  x1:Int
  x2:Int
def UP.v(x:UP):Value:=.tuple #[.string x.x0,.int .i64 x.x1,.int .i64 x.x2]
def UX:UO:=⟨UP,UP.v⟩
structure HI where
  x0:ByteArray
  x1:Int
def HI.v(x:HI):Value:=.tuple #[.string x.x0,.int .i64 x.x1]
def OA:UO:=⟨HI,HI.v⟩
structure GC where
  x0:ZP
  x1:Bool
def GC.v(x:GC):Value:=.tuple #[x.x0.v,.bool x.x1]
def BQ:UO:=⟨GC,GC.v⟩
structure MF where
  x0:ZP
  x1:Int
def MF.v(x:MF):Value:=.tuple #[x.x0.v,.int .i64 x.x1]
def YJ:UO:=⟨MF,MF.v⟩
def AoL:List (Nat×UO)→Nat→UO
  | [],_=>AoK
  | (k,h) :: r,t=>match Nat.beq k t with
    | true=>h
    | false=>AoL r t
def Aue:List (Nat×UO):=[(0,QK),(1,hFn),(3,QC .i64),(4,JS),(5,QC .u8),(9,EB),(21,QC .i32),(22,hSl),(24,EI),(25,hSl),(27,JQ),(30,hSl),(32,SM),(33,XU),(36,hSl),(38,DC),(40,WG),(41,hFn),(42,hSl),(43,ZQ),(46,hSl),(51,QC .i64),(53,SO),(56,hFn),(57,hSl),(58,hSl),(63,DD),(65,SO),(68,SO),(69,hSl),(75,hSl),(76,hSl),(80,hSl),(82,Ad7),(84,hSl),(85,YD),(89,hSl),(93,Ae7),(102,hFn),(104,SO),(105,Ae7),(108,AX),(112,hFn),(118,Ad6),(122,Ad8),(125,SO),(131,VT),(132,SO),(140,hFn),(141,hFn),(142,hFn),(144,AU),(147,Ae7),(150,FE),(153,UX),(167,QC .u32),(175,OA),(182,hSl),(186,hFn),(198,QC .u64),(206,hSl),(208,BQ),(224,YJ)]
def Apq:List (Nat×List (Nat×UO))→Nat→List (Nat×UO)
  | [],_=>[]
  | (k,h) :: r,t=>match Nat.beq k t with
    | true=>h
    | false=>Apq r t
noncomputable abbrev PP:Program:=Tryz.prog
def GG:Nat→Bool:=fun g=>match Nat.ble 3 g with
  | true=>Nat.blt g 260
  | false=>false
def AvJ(g:Nat):Bool:=match PP.funcs[g]? with
  | some fn=>fn.body.isSome && !(fn.name == "runtime.NumGoroutine")
  | none=>false
theorem AvI:((List.range 260).all fun g => !GG g || AvJ g)=true:=by kernel_rfl
theorem mixedOrders:PP.follows .mixedOrders=true:=by kernel_rfl
noncomputable def cxv(ov:List (Nat×UO))(n:Nat)(A:List (Nat×List (Nat×UO))):Cx:={ P:=PP,H:=AoL (ov++Aue),HC:=AoL Aue,G:=GG,n:=n,A:=Apq A }
noncomputable abbrev cx(n:Nat)(A:List (Nat×List (Nat×UO))):Cx:=cxv [] n A
theorem Auk(ov:List (Nat×UO))(n:Nat)(A:List (Nat×List (Nat×UO))):GOk (cxv ov n A):=by
  intro g hg args w
  have hg':GG g=true:=hg
  have hlt:g<260:=by
    unfold GG at hg'
    split at hg'
    · simpa [Nat.blt_eq] using hg'
    · cases hg'
  have h:=List.all_eq_true.1 AvI g (List.mem_range.2 hlt)
  simp only[hg',Bool.not_true,Bool.false_or] at h
  unfold AvJ at h
  show(callFunc g args).run PP w=_
  split at h
  · rename_i fn hf
    simp only[Bool.and_eq_true,Bool.not_eq_true',beq_eq_false_iff_ne,ne_eq] at h
    have hb:¬ fn.body=none:=fun hb=>by simp[hb] at h
    simp[callFunc,hf,h.2,hb]
  · cases h
theorem Apy{ov:List (Nat×UO)}{n:Nat}{A:List (Nat×List (Nat×UO))}{f:FuncId}{fn:Func}{args:Array Value}{h:UO}{K:h.ty→World→Prop}{w:World}{F:Prop}
    (heq:fnE (cxv ov n A) fn args (fun v w'=>∃ x,v=h.val x∧K x w') w=F) (hf:PP.funcs[f]? = some fn) (hn:fn.ntmps=n) (hsz:args.size≤n) (hF:F):Cl PP f args h K w:=by
  have:=Aqs (c:=cxv ov n A) (Auk ov n A) mixedOrders hf hn hsz (heq▸hF)
  exact this.mono fun e w' ⟨v,he,x,hv,hx⟩=>⟨x,hv▸he,hx⟩
theorem fnc{n:Nat}{A:List (Nat×List (Nat×UO))}{f:FuncId}{fn:Func}{args:Array Value}{h:UO}{K:h.ty→World→Prop}{w:World}{F:Prop}
    (heq:fnE (cx n A) fn args (fun v w'=>∃ x,v=h.val x∧K x w') w=F) (hf:PP.funcs[f]? = some fn) (hn:fn.ntmps=n) (hsz:Nat.ble args.size n=true) (hF:F):Cl PP f args h K w:=
  Apy heq hf hn (Nat.le_of_ble_eq_true hsz) hF
def bx(o:Obj)(K:Addr→World→Prop)(w:World):Prop:=∀ a w',LG w o a w'→K a w'
def dw(K:World→Prop)(w:World):Prop:=∀ w1,Drw w w1→K w1
def rn(s:Sem Value)(h:UO)(K:h.ty→World→Prop)(w:World):Prop:=RnN PP (do let v ← s;pure (.value v)) h K w
def rnS(S:World→Prop)(s:Sem Value)(h:UO)(K:h.ty→Prop):Prop:=RdS PP S (do let v ← s;pure (.value v)) h K
def un(s:Sem Unit)(K:World→Prop)(w:World):Prop:=RnU PP (do s;pure .skip) K w
def bin(op:BinOp)(t:TypeId)(a b:Value)(h:UO)(K:h.ty→World→Prop)(w:World):Prop:=rn (do eqGuard op t (.const a) (.const b) a b;binOp op t a b) h K w
def Av2(S:World→Prop)(op:BinOp)(t:TypeId)(a b:Value)(h:UO)(K:h.ty→Prop):Prop:=rnS S (do eqGuard op t (.const a) (.const b) a b;binOp op t a b) h K
def clv(fv:Value)(args:Array Value)(h:UO)(K:h.ty→World→Prop)(w:World):Prop:=∃ g cap,fv = .func (.func g) #[] cap∧GG g=true∧Cl PP g (args++cap) h K w
def lr(t:TypeId)(ad:Addr)(h:UO)(K:h.ty→Prop)(w:World):Prop:=∃ x,(loadVar t ad).run PP w = .ok (h.val x) w∧K x
def Rt(h:UO)(K:h.ty→World→Prop)(v:Value)(w:World):Prop:=∃ x,v=h.val x∧K x w
def ArR(ad:Addr)(K:Fv→World→Prop)(w:World):Prop:=rn (Instr.loadAt 1 (.pointer (some ad))) (hFn) K w
def JK(ad:Addr)(K:Int→World→Prop)(w:World):Prop:=rn (Instr.loadAt 3 (.pointer (some ad))) (QC .i64) K w
def QG(S:World→Prop)(ad:Addr)(K:Int→Prop):Prop:=rnS S (Instr.loadAt 3 (.pointer (some ad))) (QC .i64) K
def YX(ad:Addr)(x:Int)(K:World→Prop)(w:World):Prop:=un (Instr.storeAt 3 (.pointer (some ad)) (.int .i64 x)) K w
def OR(ad:Addr)(K:Bool→World→Prop)(w:World):Prop:=rn (Instr.loadAt 4 (.pointer (some ad))) (JS) K w
def Aef(S:World→Prop)(ad:Addr)(K:Bool→Prop):Prop:=rnS S (Instr.loadAt 4 (.pointer (some ad))) (JS) K
def HN(ad:Addr)(x:Bool)(K:World→Prop)(w:World):Prop:=un (Instr.storeAt 4 (.pointer (some ad)) (.bool x)) K w
def WL(ad:Addr)(K:Int→World→Prop)(w:World):Prop:=rn (Instr.loadAt 5 (.pointer (some ad))) (QC .u8) K w
def QO(ad:Addr)(K:ByteArray→World→Prop)(w:World):Prop:=rn (Instr.loadAt 9 (.pointer (some ad))) (EB) K w
def YY(S:World→Prop)(ad:Addr)(K:ByteArray→Prop):Prop:=rnS S (Instr.loadAt 9 (.pointer (some ad))) (EB) K
def WK(ad:Addr)(K:Sl→World→Prop)(w:World):Prop:=rn (Instr.loadAt 22 (.pointer (some ad))) (hSl) K w
def Acs(ad:Addr)(K:ZP→World→Prop)(w:World):Prop:=rn (Instr.loadAt 24 (.pointer (some ad))) (EI) K w
def AiO(S:World→Prop)(ad:Addr)(K:ZP→Prop):Prop:=rnS S (Instr.loadAt 24 (.pointer (some ad))) (EI) K
def ZW(ad:Addr)(x:ZP)(K:World→Prop)(w:World):Prop:=un (Instr.storeAt 24 (.pointer (some ad)) (x.v)) K w
def YK(ad:Addr)(K:ZP→Prop)(w:World):Prop:=lr 24 ad (EI) K w
def JZ(ad:Addr)(K:Sl→World→Prop)(w:World):Prop:=rn (Instr.loadAt 25 (.pointer (some ad))) (hSl) K w
def QM(S:World→Prop)(ad:Addr)(K:Sl→Prop):Prop:=rnS S (Instr.loadAt 25 (.pointer (some ad))) (hSl) K
def JF(ad:Addr)(K:JA→World→Prop)(w:World):Prop:=rn (Instr.loadAt 27 (.pointer (some ad))) (JQ) K w
def QB(S:World→Prop)(ad:Addr)(K:JA→Prop):Prop:=rnS S (Instr.loadAt 27 (.pointer (some ad))) (JQ) K
def JC(ad:Addr)(x:JA)(K:World→Prop)(w:World):Prop:=un (Instr.storeAt 27 (.pointer (some ad)) (x.v)) K w
def JG(ad:Addr)(K:JA→Prop)(w:World):Prop:=lr 27 ad (JQ) K w
def FM(S:World→Prop)(ad:Addr)(K:QI→Prop):Prop:=rnS S (Instr.loadAt 32 (.pointer (some ad))) (SM) K
def ZO(ad:Addr)(x:QI)(K:World→Prop)(w:World):Prop:=un (Instr.storeAt 32 (.pointer (some ad)) (x.v)) K w
def XS(ad:Addr)(K:QI→Prop)(w:World):Prop:=lr 32 ad (SM) K w
def AY(ad:Addr)(K:Sl→World→Prop)(w:World):Prop:=rn (Instr.loadAt 36 (.pointer (some ad))) (hSl) K w
def SQ(S:World→Prop)(ad:Addr)(K:Sl→Prop):Prop:=rnS S (Instr.loadAt 36 (.pointer (some ad))) (hSl) K
def AiT(ad:Addr)(x:Sl)(K:World→Prop)(w:World):Prop:=un (Instr.storeAt 36 (.pointer (some ad)) (x.v)) K w
def SR(ad:Addr)(K:JL→World→Prop)(w:World):Prop:=rn (Instr.loadAt 38 (.pointer (some ad))) (DC) K w
def AaX(S:World→Prop)(ad:Addr)(K:JL→Prop):Prop:=rnS S (Instr.loadAt 38 (.pointer (some ad))) (DC) K
def LU(ad:Addr)(x:JL)(K:World→Prop)(w:World):Prop:=un (Instr.storeAt 38 (.pointer (some ad)) (x.v)) K w
def Acv(ad:Addr)(K:JL→Prop)(w:World):Prop:=lr 38 ad (DC) K w
def Akx(ad:Addr)(K:XK→World→Prop)(w:World):Prop:=rn (Instr.loadAt 40 (.pointer (some ad))) (WG) K w
def Aed(S:World→Prop)(ad:Addr)(K:XK→Prop):Prop:=rnS S (Instr.loadAt 40 (.pointer (some ad))) (WG) K
def Ak8(ad:Addr)(x:XK)(K:World→Prop)(w:World):Prop:=un (Instr.storeAt 40 (.pointer (some ad)) (x.v)) K w
def CS(ad:Addr)(K:Sl→World→Prop)(w:World):Prop:=rn (Instr.loadAt 42 (.pointer (some ad))) (hSl) K w
def UY(S:World→Prop)(ad:Addr)(K:Option Addr→Prop):Prop:=rnS S (Instr.loadAt 53 (.pointer (some ad))) (SO) K
def NX(S:World→Prop)(ad:Addr)(K:Fv→Prop):Prop:=rnS S (Instr.loadAt 56 (.pointer (some ad))) (hFn) K
def QN(ad:Addr)(K:Sl→World→Prop)(w:World):Prop:=rn (Instr.loadAt 57 (.pointer (some ad))) (hSl) K w
def VU(S:World→Prop)(ad:Addr)(K:Sl→Prop):Prop:=rnS S (Instr.loadAt 57 (.pointer (some ad))) (hSl) K
def AbL(ad:Addr)(x:Sl)(K:World→Prop)(w:World):Prop:=un (Instr.storeAt 57 (.pointer (some ad)) (x.v)) K w
def ArT(ad:Addr)(K:Sl→World→Prop)(w:World):Prop:=rn (Instr.loadAt 58 (.pointer (some ad))) (hSl) K w
def ApD(S:World→Prop)(ad:Addr)(K:Sl→Prop):Prop:=rnS S (Instr.loadAt 58 (.pointer (some ad))) (hSl) K
def Ane(ad:Addr)(x:Sl)(K:World→Prop)(w:World):Prop:=un (Instr.storeAt 58 (.pointer (some ad)) (x.v)) K w
def YF(ad:Addr)(K:JB→World→Prop)(w:World):Prop:=rn (Instr.loadAt 63 (.pointer (some ad))) (DD) K w
def ZD(S:World→Prop)(ad:Addr)(K:JB→Prop):Prop:=rnS S (Instr.loadAt 63 (.pointer (some ad))) (DD) K
def IP(ad:Addr)(x:JB)(K:World→Prop)(w:World):Prop:=un (Instr.storeAt 63 (.pointer (some ad)) (x.v)) K w
def Aek(ad:Addr)(K:JB→Prop)(w:World):Prop:=lr 63 ad (DD) K w
def ZA(ad:Addr)(K:Option Addr→World→Prop)(w:World):Prop:=rn (Instr.loadAt 65 (.pointer (some ad))) (SO) K w
def UQ(S:World→Prop)(ad:Addr)(K:Option Addr→Prop):Prop:=rnS S (Instr.loadAt 65 (.pointer (some ad))) (SO) K
def Ac2(ad:Addr)(x:Option Addr)(K:World→Prop)(w:World):Prop:=un (Instr.storeAt 65 (.pointer (some ad)) (.pointer x)) K w
def Af9(ad:Addr)(K:Sl→World→Prop)(w:World):Prop:=rn (Instr.loadAt 76 (.pointer (some ad))) (hSl) K w
def AaB(S:World→Prop)(ad:Addr)(K:Sl→Prop):Prop:=rnS S (Instr.loadAt 76 (.pointer (some ad))) (hSl) K
def Aaa(ad:Addr)(x:Sl)(K:World→Prop)(w:World):Prop:=un (Instr.storeAt 76 (.pointer (some ad)) (x.v)) K w
def FN(ad:Addr)(K:Sl→World→Prop)(w:World):Prop:=rn (Instr.loadAt 84 (.pointer (some ad))) (hSl) K w
def EJ(S:World→Prop)(ad:Addr)(K:Sl→Prop):Prop:=rnS S (Instr.loadAt 84 (.pointer (some ad))) (hSl) K
def AfQ(ad:Addr)(x:Sl)(K:World→Prop)(w:World):Prop:=un (Instr.storeAt 84 (.pointer (some ad)) (x.v)) K w
def Aha(ad:Addr)(K:Sl→World→Prop)(w:World):Prop:=rn (Instr.loadAt 89 (.pointer (some ad))) (hSl) K w
def LK(S:World→Prop)(ad:Addr)(K:Sl→Prop):Prop:=rnS S (Instr.loadAt 89 (.pointer (some ad))) (hSl) K
def Anc(ad:Addr)(x:Sl)(K:World→Prop)(w:World):Prop:=un (Instr.storeAt 89 (.pointer (some ad)) (x.v)) K w
def ZL(ad:Addr)(K:Option Nat→World→Prop)(w:World):Prop:=rn (Instr.loadAt 93 (.pointer (some ad))) (Ae7) K w
def IK(S:World→Prop)(ad:Addr)(K:Option Nat→Prop):Prop:=rnS S (Instr.loadAt 93 (.pointer (some ad))) (Ae7) K
def Aeh(ad:Addr)(K:Option Addr→World→Prop)(w:World):Prop:=rn (Instr.loadAt 104 (.pointer (some ad))) (SO) K w
def AC(S:World→Prop)(ad:Addr)(K:Option Addr→Prop):Prop:=rnS S (Instr.loadAt 104 (.pointer (some ad))) (SO) K
def AeC(ad:Addr)(x:Option Addr)(K:World→Prop)(w:World):Prop:=un (Instr.storeAt 104 (.pointer (some ad)) (.pointer x)) K w
def ML(ad:Addr)(K:Option Nat→World→Prop)(w:World):Prop:=rn (Instr.loadAt 105 (.pointer (some ad))) (Ae7) K w
def Acq(S:World→Prop)(ad:Addr)(K:Option Nat→Prop):Prop:=rnS S (Instr.loadAt 105 (.pointer (some ad))) (Ae7) K
def BI(ad:Addr)(K:JN→World→Prop)(w:World):Prop:=rn (Instr.loadAt 131 (.pointer (some ad))) (VT) K w
def AfG(S:World→Prop)(ad:Addr)(K:JN→Prop):Prop:=rnS S (Instr.loadAt 131 (.pointer (some ad))) (VT) K
def XA(ad:Addr)(x:JN)(K:World→Prop)(w:World):Prop:=un (Instr.storeAt 131 (.pointer (some ad)) (x.v)) K w
def LO(ad:Addr)(K:JN→Prop)(w:World):Prop:=lr 131 ad (VT) K w
def AnQ(ad:Addr)(K:Value→World→Prop)(w:World):Prop:=rn (Instr.loadAt 141 (.pointer (some ad))) AoK K w
def OB(ad:Addr)(K:Fv→World→Prop)(w:World):Prop:=rn (Instr.loadAt 142 (.pointer (some ad))) (hFn) K w
def LL(ad:Addr)(K:Value→World→Prop)(w:World):Prop:=rn (Instr.loadAt 142 (.pointer (some ad))) AoK K w
def Aeg(S:World→Prop)(ad:Addr)(K:Fv→Prop):Prop:=rnS S (Instr.loadAt 142 (.pointer (some ad))) (hFn) K
def JX(ad:Addr)(x:YA)(K:World→Prop)(w:World):Prop:=un (Instr.storeAt 144 (.pointer (some ad)) (x.v)) K w
def QA(ad:Addr)(K:YA→Prop)(w:World):Prop:=lr 144 ad (AU) K w
def AbB(ad:Addr)(K:Int→World→Prop)(w:World):Prop:=rn (Instr.loadAt 167 (.pointer (some ad))) (QC .u32) K w
def Acr(S:World→Prop)(ad:Addr)(K:Int→Prop):Prop:=rnS S (Instr.loadAt 167 (.pointer (some ad))) (QC .u32) K
def OC(ad:Addr)(x:Int)(K:World→Prop)(w:World):Prop:=un (Instr.storeAt 167 (.pointer (some ad)) (.int .u32 x)) K w
def WJ(ad:Addr)(K:Sl→World→Prop)(w:World):Prop:=rn (Instr.loadAt 182 (.pointer (some ad))) (hSl) K w
theorem ZX{t n:Nat}(h:(PP.info? t).map (·.size)=some n):∃ i,PP.info? t=some i∧i.size=n:=by
  cases hi:PP.info? t with
  | none=>rw[hi] at h;cases h
  | some i=>rw[hi] at h;exact⟨i,rfl,by simpa using h⟩
theorem YZ{s:Sem Value}{h:UO}{K:h.ty→World→Prop}{w w':World}(x:h.ty)(hr:s.run PP w = .ok (h.val x) w')(k:K x w'):rn s h K w:=⟨x,w',by simp[hr],k⟩
theorem VQ{S:World→Prop}{s:Sem Value}{h:UO}{K:h.ty→Prop}(x:h.ty)(hr:∀ w,S w→s.run PP w = .ok (h.val x) w)(k:K x):rnS S s h K:=⟨x,fun w hs=>by simp[hr w hs],k⟩
theorem CW{s:Sem Unit}{K:World→Prop}{w w':World}(hr:s.run PP w = .ok () w')(k:K w'):un s K w:=⟨w',by simp[hr],k⟩
theorem AqR{a:Addr}{x:Fv}{w:World}(h:w.cell? a=some (x.v)):(Instr.loadAt 1 (.pointer (some a))).run PP w = .ok (x.v) w:=ZK Tryz.underlying1 rfl h
theorem ArS{a:Addr}{x:Fv}{K:Fv→World→Prop}{w:World}(h:w.cell? a=some (x.v))(k:K x w):ArR a K w:=YZ (h:=hFn) x (AqR h) k
theorem Asp:(PP.info? 3).map (·.size)=some 1:=by kernel_rfl
theorem AkV{a:Addr}{x:Int}{w:World}(h:w.cell? a=some (.int .i64 x)):(Instr.loadAt 3 (.pointer (some a))).run PP w = .ok (.int .i64 x) w:=ZK Tryz.underlying3 rfl h
theorem JO{a:Addr}{x:Int}{K:Int→World→Prop}{w:World}(h:w.cell? a=some (.int .i64 x))(k:K x w):JK a K w:=YZ (h:=QC .i64) x (AkV h) k
theorem JV{S:World→Prop}{a:Addr}{x:Int}{K:Int→Prop}(h:∀ w',S w'→w'.cell? a=some (.int .i64 x))(k:K x):QG S a K:=VQ (h:=QC .i64) x (fun w' hs=>AkV (h w' hs)) k
theorem MB{b o:Nat}{cs:Array Value}{e:TypeId}{x:Int}{K:World→Prop}{w:World}(hb:w.heap[b]? = some (.cells cs e (0,0)))(ho:o+1≤cs.size)(k:∀ w',HZ w b (.cells (ZI cs o [.int .i64 x]) e (0,0)) w'→K w'):YX ⟨b,o,none⟩ x K w:=by
  obtain⟨i,hi,hn⟩:=ZX Asp
  exact CW (XG (v:=.int .i64 x) hi hn hb ho (List.all_eq_true.1 rfl)) (k _ rfl)
theorem AqU:(PP.info? 4).map (·.size)=some 1:=by kernel_rfl
theorem AiQ{a:Addr}{x:Bool}{w:World}(h:w.cell? a=some (.bool x)):(Instr.loadAt 4 (.pointer (some a))).run PP w = .ok (.bool x) w:=ZK Tryz.underlying4 rfl h
theorem HT{a:Addr}{x:Bool}{K:Bool→World→Prop}{w:World}(h:w.cell? a=some (.bool x))(k:K x w):OR a K w:=YZ (h:=JS) x (AiQ h) k
theorem AaC{S:World→Prop}{a:Addr}{x:Bool}{K:Bool→Prop}(h:∀ w',S w'→w'.cell? a=some (.bool x))(k:K x):Aef S a K:=VQ (h:=JS) x (fun w' hs=>AiQ (h w' hs)) k
theorem KJ{b o:Nat}{cs:Array Value}{e:TypeId}{x:Bool}{K:World→Prop}{w:World}(hb:w.heap[b]? = some (.cells cs e (0,0)))(ho:o+1≤cs.size)(k:∀ w',HZ w b (.cells (ZI cs o [.bool x]) e (0,0)) w'→K w'):HN ⟨b,o,none⟩ x K w:=by
  obtain⟨i,hi,hn⟩:=ZX AqU
  exact CW (XG (v:=.bool x) hi hn hb ho (List.all_eq_true.1 rfl)) (k _ rfl)
theorem Am6{a:Addr}{x:Int}{w:World}(h:w.cell? a=some (.int .u8 x)):(Instr.loadAt 5 (.pointer (some a))).run PP w = .ok (.int .u8 x) w:=ZK Tryz.underlying5 rfl h
theorem AnP{a:Addr}{x:Int}{K:Int→World→Prop}{w:World}(h:w.cell? a=some (.int .u8 x))(k:K x w):WL a K w:=YZ (h:=QC .u8) x (Am6 h) k
theorem AfN{a:Addr}{x:ByteArray}{w:World}(h:w.cell? a=some (.string x)):(Instr.loadAt 9 (.pointer (some a))).run PP w = .ok (.string x) w:=ZK Tryz.underlying9 rfl h
theorem YS{a:Addr}{x:ByteArray}{K:ByteArray→World→Prop}{w:World}(h:w.cell? a=some (.string x))(k:K x w):QO a K w:=YZ (h:=EB) x (AfN h) k
theorem YO{S:World→Prop}{a:Addr}{x:ByteArray}{K:ByteArray→Prop}(h:∀ w',S w'→w'.cell? a=some (.string x))(k:K x):YY S a K:=VQ (h:=EB) x (fun w' hs=>AfN (h w' hs)) k
theorem AkU{a:Addr}{x:Sl}{w:World}(h:w.cell? a=some (x.v)):(Instr.loadAt 22 (.pointer (some a))).run PP w = .ok (x.v) w:=ZK Tryz.underlying22 rfl h
theorem AaZ{a:Addr}{x:Sl}{K:Sl→World→Prop}{w:World}(h:w.cell? a=some (x.v))(k:K x w):WK a K w:=YZ (h:=hSl) x (AkU h) k
theorem AcG:(PP.info? 24).map (·.size)=some 2:=by kernel_rfl
theorem Aev{a:Addr}{x:ZP}{w:World}(h:JD w a x.cells.toList):(Instr.loadAt 24 (.pointer (some a))).run PP w = .ok (x.v) w:=by
  obtain⟨i,hi,hn⟩:=ZX AcG
  exact DF Tryz.underlying24 hi hn h
theorem AkX{a:Addr}{x:ZP}{w:World}(h:JD w a x.cells.toList):(loadVar 24 a).run PP w = .ok (x.v) w:=by
  obtain⟨i,hi,hn⟩:=ZX AcG
  exact UF Tryz.underlying24 hi hn h
theorem AfI{a:Addr}{x:ZP}{K:ZP→World→Prop}{w:World}(h:JD w a x.cells.toList)(k:K x w):Acs a K w:=YZ (h:=EI) x (Aev h) k
theorem Akw{S:World→Prop}{a:Addr}{x:ZP}{K:ZP→Prop}(h:∀ w',S w'→JD w' a x.cells.toList)(k:K x):AiO S a K:=VQ (h:=EI) x (fun w' hs=>Aev (h w' hs)) k
theorem AfJ{a:Addr}{x:ZP}{K:ZP→Prop}{w:World}(h:JD w a x.cells.toList)(k:K x):YK a K w:=⟨x,AkX h,k⟩
theorem FQ{b o:Nat}{cs:Array Value}{e:TypeId}{x:ZP}{K:World→Prop}{w:World}(hb:w.heap[b]? = some (.cells cs e (0,0)))(ho:o+2≤cs.size)(k:∀ w',HZ w b (.cells (ZI cs o x.cells.toList) e (0,0)) w'→K w'):ZW ⟨b,o,none⟩ x K w:=by
  obtain⟨i,hi,hn⟩:=ZX AcG
  exact CW (XG (v:=x.v) hi hn hb ho (List.all_eq_true.1 rfl)) (k _ rfl)
theorem AbI{a:Addr}{x:Sl}{w:World}(h:w.cell? a=some (x.v)):(Instr.loadAt 25 (.pointer (some a))).run PP w = .ok (x.v) w:=ZK Tryz.underlying25 rfl h
theorem UG{a:Addr}{x:Sl}{K:Sl→World→Prop}{w:World}(h:w.cell? a=some (x.v))(k:K x w):JZ a K w:=YZ (h:=hSl) x (AbI h) k
theorem ZY{S:World→Prop}{a:Addr}{x:Sl}{K:Sl→Prop}(h:∀ w',S w'→w'.cell? a=some (x.v))(k:K x):QM S a K:=VQ (h:=hSl) x (fun w' hs=>AbI (h w' hs)) k
theorem Aa5:(PP.info? 27).map (·.size)=some 6:=by kernel_rfl
theorem Ac1{a:Addr}{x:JA}{w:World}(h:JD w a x.cells.toList):(Instr.loadAt 27 (.pointer (some a))).run PP w = .ok (x.v) w:=by
  obtain⟨i,hi,hn⟩:=ZX Aa5
  exact DF Tryz.underlying27 hi hn h
theorem Ajj{a:Addr}{x:JA}{w:World}(h:JD w a x.cells.toList):(loadVar 27 a).run PP w = .ok (x.v) w:=by
  obtain⟨i,hi,hn⟩:=ZX Aa5
  exact UF Tryz.underlying27 hi hn h
theorem QV{a:Addr}{x:JA}{K:JA→World→Prop}{w:World}(h:JD w a x.cells.toList)(k:K x w):JF a K w:=YZ (h:=JQ) x (Ac1 h) k
theorem PZ{S:World→Prop}{a:Addr}{x:JA}{K:JA→Prop}(h:∀ w',S w'→JD w' a x.cells.toList)(k:K x):QB S a K:=VQ (h:=JQ) x (fun w' hs=>Ac1 (h w' hs)) k
theorem Aej{a:Addr}{x:JA}{K:JA→Prop}{w:World}(h:JD w a x.cells.toList)(k:K x):JG a K w:=⟨x,Ajj h,k⟩
theorem XH{b o:Nat}{cs:Array Value}{e:TypeId}{x:JA}{K:World→Prop}{w:World}(hb:w.heap[b]? = some (.cells cs e (0,0)))(ho:o+6≤cs.size)(k:∀ w',HZ w b (.cells (ZI cs o x.cells.toList) e (0,0)) w'→K w'):JC ⟨b,o,none⟩ x K w:=by
  obtain⟨i,hi,hn⟩:=ZX Aa5
  exact CW (XG (v:=x.v) hi hn hb ho (List.all_eq_true.1 rfl)) (k _ rfl)
theorem WW:(PP.info? 32).map (·.size)=some 2:=by kernel_rfl
theorem Aic{a:Addr}{x:QI}{w:World}(h:JD w a x.cells.toList):(Instr.loadAt 32 (.pointer (some a))).run PP w = .ok (x.v) w:=by
  obtain⟨i,hi,hn⟩:=ZX WW
  exact DF Tryz.underlying32 hi hn h
theorem Aid{a:Addr}{x:QI}{w:World}(h:JD w a x.cells.toList):(loadVar 32 a).run PP w = .ok (x.v) w:=by
  obtain⟨i,hi,hn⟩:=ZX WW
  exact UF Tryz.underlying32 hi hn h
theorem CQ{S:World→Prop}{a:Addr}{x:QI}{K:QI→Prop}(h:∀ w',S w'→JD w' a x.cells.toList)(k:K x):FM S a K:=VQ (h:=SM) x (fun w' hs=>Aic (h w' hs)) k
theorem UH{a:Addr}{x:QI}{K:QI→Prop}{w:World}(h:JD w a x.cells.toList)(k:K x):XS a K w:=⟨x,Aid h,k⟩
theorem YH{b o:Nat}{cs:Array Value}{e:TypeId}{x:QI}{K:World→Prop}{w:World}(hb:w.heap[b]? = some (.cells cs e (0,0)))(ho:o+2≤cs.size)(k:∀ w',HZ w b (.cells (ZI cs o x.cells.toList) e (0,0)) w'→K w'):ZO ⟨b,o,none⟩ x K w:=by
  obtain⟨i,hi,hn⟩:=ZX WW
  exact CW (XG (v:=x.v) hi hn hb ho (List.all_eq_true.1 rfl)) (k _ rfl)
theorem AlD:(PP.info? 36).map (·.size)=some 1:=by kernel_rfl
theorem AcZ{a:Addr}{x:Sl}{w:World}(h:w.cell? a=some (x.v)):(Instr.loadAt 36 (.pointer (some a))).run PP w = .ok (x.v) w:=ZK Tryz.underlying36 rfl h
theorem DE{a:Addr}{x:Sl}{K:Sl→World→Prop}{w:World}(h:w.cell? a=some (x.v))(k:K x w):AY a K w:=YZ (h:=hSl) x (AcZ h) k
theorem PY{S:World→Prop}{a:Addr}{x:Sl}{K:Sl→Prop}(h:∀ w',S w'→w'.cell? a=some (x.v))(k:K x):SQ S a K:=VQ (h:=hSl) x (fun w' hs=>AcZ (h w' hs)) k
theorem Ak6{b o:Nat}{cs:Array Value}{e:TypeId}{x:Sl}{K:World→Prop}{w:World}(hb:w.heap[b]? = some (.cells cs e (0,0)))(ho:o+1≤cs.size)(k:∀ w',HZ w b (.cells (ZI cs o [x.v]) e (0,0)) w'→K w'):AiT ⟨b,o,none⟩ x K w:=by
  obtain⟨i,hi,hn⟩:=ZX AlD
  exact CW (XG (v:=x.v) hi hn hb ho (List.all_eq_true.1 rfl)) (k _ rfl)
theorem WX:(PP.info? 38).map (·.size)=some 7:=by kernel_rfl
theorem AbJ{a:Addr}{x:JL}{w:World}(h:JD w a x.cells.toList):(Instr.loadAt 38 (.pointer (some a))).run PP w = .ok (x.v) w:=by
  obtain⟨i,hi,hn⟩:=ZX WX
  exact DF Tryz.underlying38 hi hn h
theorem Aie{a:Addr}{x:JL}{w:World}(h:JD w a x.cells.toList):(loadVar 38 a).run PP w = .ok (x.v) w:=by
  obtain⟨i,hi,hn⟩:=ZX WX
  exact UF Tryz.underlying38 hi hn h
theorem AcT{a:Addr}{x:JL}{K:JL→World→Prop}{w:World}(h:JD w a x.cells.toList)(k:K x w):SR a K w:=YZ (h:=DC) x (AbJ h) k
theorem AbA{S:World→Prop}{a:Addr}{x:JL}{K:JL→Prop}(h:∀ w',S w'→JD w' a x.cells.toList)(k:K x):AaX S a K:=VQ (h:=DC) x (fun w' hs=>AbJ (h w' hs)) k
theorem Aji{a:Addr}{x:JL}{K:JL→Prop}{w:World}(h:JD w a x.cells.toList)(k:K x):Acv a K w:=⟨x,Aie h,k⟩
theorem RA{b o:Nat}{cs:Array Value}{e:TypeId}{x:JL}{K:World→Prop}{w:World}(hb:w.heap[b]? = some (.cells cs e (0,0)))(ho:o+7≤cs.size)(k:∀ w',HZ w b (.cells (ZI cs o x.cells.toList) e (0,0)) w'→K w'):LU ⟨b,o,none⟩ x K w:=by
  obtain⟨i,hi,hn⟩:=ZX WX
  exact CW (XG (v:=x.v) hi hn hb ho (List.all_eq_true.1 rfl)) (k _ rfl)
theorem Ahi:(PP.info? 40).map (·.size)=some 3:=by kernel_rfl
theorem Aew{a:Addr}{x:XK}{w:World}(h:JD w a x.cells.toList):(Instr.loadAt 40 (.pointer (some a))).run PP w = .ok (x.v) w:=by
  obtain⟨i,hi,hn⟩:=ZX Ahi
  exact DF Tryz.underlying40 hi hn h
theorem Alw{a:Addr}{x:XK}{K:XK→World→Prop}{w:World}(h:JD w a x.cells.toList)(k:K x w):Akx a K w:=YZ (h:=WG) x (Aew h) k
theorem Aee{S:World→Prop}{a:Addr}{x:XK}{K:XK→Prop}(h:∀ w',S w'→JD w' a x.cells.toList)(k:K x):Aed S a K:=VQ (h:=WG) x (fun w' hs=>Aew (h w' hs)) k
theorem AlG{b o:Nat}{cs:Array Value}{e:TypeId}{x:XK}{K:World→Prop}{w:World}(hb:w.heap[b]? = some (.cells cs e (0,0)))(ho:o+3≤cs.size)(k:∀ w',HZ w b (.cells (ZI cs o x.cells.toList) e (0,0)) w'→K w'):Ak8 ⟨b,o,none⟩ x K w:=by
  obtain⟨i,hi,hn⟩:=ZX Ahi
  exact CW (XG (v:=x.v) hi hn hb ho (List.all_eq_true.1 rfl)) (k _ rfl)
theorem AlB{a:Addr}{x:Sl}{w:World}(h:w.cell? a=some (x.v)):(Instr.loadAt 42 (.pointer (some a))).run PP w = .ok (x.v) w:=ZK Tryz.underlying42 rfl h
theorem AmV{a:Addr}{x:Sl}{K:Sl→World→Prop}{w:World}(h:w.cell? a=some (x.v))(k:K x w):CS a K w:=YZ (h:=hSl) x (AlB h) k
theorem Aeu{a:Addr}{x:Option Addr}{w:World}(h:w.cell? a=some (.pointer x)):(Instr.loadAt 53 (.pointer (some a))).run PP w = .ok (.pointer x) w:=ZK Tryz.underlying53 rfl h
theorem UD{S:World→Prop}{a:Addr}{x:Option Addr}{K:Option Addr→Prop}(h:∀ w',S w'→w'.cell? a=some (.pointer x))(k:K x):UY S a K:=VQ (h:=SO) x (fun w' hs=>Aeu (h w' hs)) k
theorem Ao7{a:Addr}{x:Fv}{w:World}(h:w.cell? a=some (x.v)):(Instr.loadAt 56 (.pointer (some a))).run PP w = .ok (x.v) w:=ZK Tryz.underlying56 rfl h
theorem BH{S:World→Prop}{a:Addr}{x:Fv}{K:Fv→Prop}(h:∀ w',S w'→w'.cell? a=some (x.v))(k:K x):NX S a K:=VQ (h:=hFn) x (fun w' hs=>Ao7 (h w' hs)) k
theorem Agp:(PP.info? 57).map (·.size)=some 1:=by kernel_rfl
theorem PQ{a:Addr}{x:Sl}{w:World}(h:w.cell? a=some (x.v)):(Instr.loadAt 57 (.pointer (some a))).run PP w = .ok (x.v) w:=ZK Tryz.underlying57 rfl h
theorem FF{a:Addr}{x:Sl}{K:Sl→World→Prop}{w:World}(h:w.cell? a=some (x.v))(k:K x w):QN a K w:=YZ (h:=hSl) x (PQ h) k
theorem VA{S:World→Prop}{a:Addr}{x:Sl}{K:Sl→Prop}(h:∀ w',S w'→w'.cell? a=some (x.v))(k:K x):VU S a K:=VQ (h:=hSl) x (fun w' hs=>PQ (h w' hs)) k
theorem Afa{b o:Nat}{cs:Array Value}{e:TypeId}{x:Sl}{K:World→Prop}{w:World}(hb:w.heap[b]? = some (.cells cs e (0,0)))(ho:o+1≤cs.size)(k:∀ w',HZ w b (.cells (ZI cs o [x.v]) e (0,0)) w'→K w'):AbL ⟨b,o,none⟩ x K w:=by
  obtain⟨i,hi,hn⟩:=ZX Agp
  exact CW (XG (v:=x.v) hi hn hb ho (List.all_eq_true.1 rfl)) (k _ rfl)
theorem Asq:(PP.info? 58).map (·.size)=some 1:=by kernel_rfl
theorem AkW{a:Addr}{x:Sl}{w:World}(h:w.cell? a=some (x.v)):(Instr.loadAt 58 (.pointer (some a))).run PP w = .ok (x.v) w:=ZK Tryz.underlying58 rfl h
theorem Aqz{a:Addr}{x:Sl}{K:Sl→World→Prop}{w:World}(h:w.cell? a=some (x.v))(k:K x w):ArT a K w:=YZ (h:=hSl) x (AkW h) k
theorem AoR{S:World→Prop}{a:Addr}{x:Sl}{K:Sl→Prop}(h:∀ w',S w'→w'.cell? a=some (x.v))(k:K x):ApD S a K:=VQ (h:=hSl) x (fun w' hs=>AkW (h w' hs)) k
theorem AqZ{b o:Nat}{cs:Array Value}{e:TypeId}{x:Sl}{K:World→Prop}{w:World}(hb:w.heap[b]? = some (.cells cs e (0,0)))(ho:o+1≤cs.size)(k:∀ w',HZ w b (.cells (ZI cs o [x.v]) e (0,0)) w'→K w'):Ane ⟨b,o,none⟩ x K w:=by
  obtain⟨i,hi,hn⟩:=ZX Asq
  exact CW (XG (v:=x.v) hi hn hb ho (List.all_eq_true.1 rfl)) (k _ rfl)
theorem NO:(PP.info? 63).map (·.size)=some 3:=by kernel_rfl
theorem WR{a:Addr}{x:JB}{w:World}(h:JD w a x.cells.toList):(Instr.loadAt 63 (.pointer (some a))).run PP w = .ok (x.v) w:=by
  obtain⟨i,hi,hn⟩:=ZX NO
  exact DF Tryz.underlying63 hi hn h
theorem Agn{a:Addr}{x:JB}{w:World}(h:JD w a x.cells.toList):(loadVar 63 a).run PP w = .ok (x.v) w:=by
  obtain⟨i,hi,hn⟩:=ZX NO
  exact UF Tryz.underlying63 hi hn h
theorem XF{a:Addr}{x:JB}{K:JB→World→Prop}{w:World}(h:JD w a x.cells.toList)(k:K x w):YF a K w:=YZ (h:=DD) x (WR h) k
theorem EK{S:World→Prop}{a:Addr}{x:JB}{K:JB→Prop}(h:∀ w',S w'→JD w' a x.cells.toList)(k:K x):ZD S a K:=VQ (h:=DD) x (fun w' hs=>WR (h w' hs)) k
theorem Ahd{a:Addr}{x:JB}{K:JB→Prop}{w:World}(h:JD w a x.cells.toList)(k:K x):Aek a K w:=⟨x,Agn h,k⟩
theorem HO{b o:Nat}{cs:Array Value}{e:TypeId}{x:JB}{K:World→Prop}{w:World}(hb:w.heap[b]? = some (.cells cs e (0,0)))(ho:o+3≤cs.size)(k:∀ w',HZ w b (.cells (ZI cs o x.cells.toList) e (0,0)) w'→K w'):IP ⟨b,o,none⟩ x K w:=by
  obtain⟨i,hi,hn⟩:=ZX NO
  exact CW (XG (v:=x.v) hi hn hb ho (List.all_eq_true.1 rfl)) (k _ rfl)
theorem Ahh:(PP.info? 65).map (·.size)=some 1:=by kernel_rfl
theorem RX{a:Addr}{x:Option Addr}{w:World}(h:w.cell? a=some (.pointer x)):(Instr.loadAt 65 (.pointer (some a))).run PP w = .ok (.pointer x) w:=ZK Tryz.underlying65 rfl h
theorem KH{a:Addr}{x:Option Addr}{K:Option Addr→World→Prop}{w:World}(h:w.cell? a=some (.pointer x))(k:K x w):ZA a K w:=YZ (h:=SO) x (RX h) k
theorem VN{S:World→Prop}{a:Addr}{x:Option Addr}{K:Option Addr→Prop}(h:∀ w',S w'→w'.cell? a=some (.pointer x))(k:K x):UQ S a K:=VQ (h:=SO) x (fun w' hs=>RX (h w' hs)) k
theorem Agq{b o:Nat}{cs:Array Value}{e:TypeId}{x:Option Addr}{K:World→Prop}{w:World}(hb:w.heap[b]? = some (.cells cs e (0,0)))(ho:o+1≤cs.size)(k:∀ w',HZ w b (.cells (ZI cs o [.pointer x]) e (0,0)) w'→K w'):Ac2 ⟨b,o,none⟩ x K w:=by
  obtain⟨i,hi,hn⟩:=ZX Ahh
  exact CW (XG (v:=.pointer x) hi hn hb ho (List.all_eq_true.1 rfl)) (k _ rfl)
theorem Am8:(PP.info? 76).map (·.size)=some 1:=by kernel_rfl
theorem Aet{a:Addr}{x:Sl}{w:World}(h:w.cell? a=some (x.v)):(Instr.loadAt 76 (.pointer (some a))).run PP w = .ok (x.v) w:=ZK Tryz.underlying76 rfl h
theorem AfH{a:Addr}{x:Sl}{K:Sl→World→Prop}{w:World}(h:w.cell? a=some (x.v))(k:K x w):Af9 a K w:=YZ (h:=hSl) x (Aet h) k
theorem Aec{S:World→Prop}{a:Addr}{x:Sl}{K:Sl→Prop}(h:∀ w',S w'→w'.cell? a=some (x.v))(k:K x):AaB S a K:=VQ (h:=hSl) x (fun w' hs=>Aet (h w' hs)) k
theorem AlF{b o:Nat}{cs:Array Value}{e:TypeId}{x:Sl}{K:World→Prop}{w:World}(hb:w.heap[b]? = some (.cells cs e (0,0)))(ho:o+1≤cs.size)(k:∀ w',HZ w b (.cells (ZI cs o [x.v]) e (0,0)) w'→K w'):Aaa ⟨b,o,none⟩ x K w:=by
  obtain⟨i,hi,hn⟩:=ZX Am8
  exact CW (XG (v:=x.v) hi hn hb ho (List.all_eq_true.1 rfl)) (k _ rfl)
theorem Ajk:(PP.info? 84).map (·.size)=some 1:=by kernel_rfl
theorem AaF{a:Addr}{x:Sl}{w:World}(h:w.cell? a=some (x.v)):(Instr.loadAt 84 (.pointer (some a))).run PP w = .ok (x.v) w:=ZK Tryz.underlying84 rfl h
theorem CR{a:Addr}{x:Sl}{K:Sl→World→Prop}{w:World}(h:w.cell? a=some (x.v))(k:K x w):FN a K w:=YZ (h:=hSl) x (AaF h) k
theorem MV{S:World→Prop}{a:Addr}{x:Sl}{K:Sl→Prop}(h:∀ w',S w'→w'.cell? a=some (x.v))(k:K x):EJ S a K:=VQ (h:=hSl) x (fun w' hs=>AaF (h w' hs)) k
theorem Ail{b o:Nat}{cs:Array Value}{e:TypeId}{x:Sl}{K:World→Prop}{w:World}(hb:w.heap[b]? = some (.cells cs e (0,0)))(ho:o+1≤cs.size)(k:∀ w',HZ w b (.cells (ZI cs o [x.v]) e (0,0)) w'→K w'):AfQ ⟨b,o,none⟩ x K w:=by
  obtain⟨i,hi,hn⟩:=ZX Ajk
  exact CW (XG (v:=x.v) hi hn hb ho (List.all_eq_true.1 rfl)) (k _ rfl)
theorem AqT:(PP.info? 89).map (·.size)=some 1:=by kernel_rfl
theorem AiP{a:Addr}{x:Sl}{w:World}(h:w.cell? a=some (x.v)):(Instr.loadAt 89 (.pointer (some a))).run PP w = .ok (x.v) w:=ZK Tryz.underlying89 rfl h
theorem Af8{a:Addr}{x:Sl}{K:Sl→World→Prop}{w:World}(h:w.cell? a=some (x.v))(k:K x w):Aha a K w:=YZ (h:=hSl) x (AiP h) k
theorem IV{S:World→Prop}{a:Addr}{x:Sl}{K:Sl→Prop}(h:∀ w',S w'→w'.cell? a=some (x.v))(k:K x):LK S a K:=VQ (h:=hSl) x (fun w' hs=>AiP (h w' hs)) k
theorem Ak7{b o:Nat}{cs:Array Value}{e:TypeId}{x:Sl}{K:World→Prop}{w:World}(hb:w.heap[b]? = some (.cells cs e (0,0)))(ho:o+1≤cs.size)(k:∀ w',HZ w b (.cells (ZI cs o [x.v]) e (0,0)) w'→K w'):Anc ⟨b,o,none⟩ x K w:=by
  obtain⟨i,hi,hn⟩:=ZX AqT
  exact CW (XG (v:=x.v) hi hn hb ho (List.all_eq_true.1 rfl)) (k _ rfl)
theorem CK{a:Addr}{x:Option Nat}{w:World}(h:w.cell? a=some (.map x)):(Instr.loadAt 93 (.pointer (some a))).run PP w = .ok (.map x) w:=ZK Tryz.underlying93 rfl h
theorem DQ{a:Addr}{x:Option Nat}{K:Option Nat→World→Prop}{w:World}(h:w.cell? a=some (.map x))(k:K x w):ZL a K w:=YZ (h:=Ae7) x (CK h) k
theorem WI{S:World→Prop}{a:Addr}{x:Option Nat}{K:Option Nat→Prop}(h:∀ w',S w'→w'.cell? a=some (.map x))(k:K x):IK S a K:=VQ (h:=Ae7) x (fun w' hs=>CK (h w' hs)) k
theorem Aii:(PP.info? 104).map (·.size)=some 1:=by kernel_rfl
theorem WQ{a:Addr}{x:Option Addr}{w:World}(h:w.cell? a=some (.pointer x)):(Instr.loadAt 104 (.pointer (some a))).run PP w = .ok (.pointer x) w:=ZK Tryz.underlying104 rfl h
theorem Ahb{a:Addr}{x:Option Addr}{K:Option Addr→World→Prop}{w:World}(h:w.cell? a=some (.pointer x))(k:K x w):Aeh a K w:=YZ (h:=SO) x (WQ h) k
theorem KG{S:World→Prop}{a:Addr}{x:Option Addr}{K:Option Addr→Prop}(h:∀ w',S w'→w'.cell? a=some (.pointer x))(k:K x):AC S a K:=VQ (h:=SO) x (fun w' hs=>WQ (h w' hs)) k
theorem Ahl{b o:Nat}{cs:Array Value}{e:TypeId}{x:Option Addr}{K:World→Prop}{w:World}(hb:w.heap[b]? = some (.cells cs e (0,0)))(ho:o+1≤cs.size)(k:∀ w',HZ w b (.cells (ZI cs o [.pointer x]) e (0,0)) w'→K w'):AeC ⟨b,o,none⟩ x K w:=by
  obtain⟨i,hi,hn⟩:=ZX Aii
  exact CW (XG (v:=.pointer x) hi hn hb ho (List.all_eq_true.1 rfl)) (k _ rfl)
theorem Ac0{a:Addr}{x:Option Nat}{w:World}(h:w.cell? a=some (.map x)):(Instr.loadAt 105 (.pointer (some a))).run PP w = .ok (.map x) w:=ZK Tryz.underlying105 rfl h
theorem CH{a:Addr}{x:Option Nat}{K:Option Nat→World→Prop}{w:World}(h:w.cell? a=some (.map x))(k:K x w):ML a K w:=YZ (h:=Ae7) x (Ac0 h) k
theorem Ajh{S:World→Prop}{a:Addr}{x:Option Nat}{K:Option Nat→Prop}(h:∀ w',S w'→w'.cell? a=some (.map x))(k:K x):Acq S a K:=VQ (h:=Ae7) x (fun w' hs=>Ac0 (h w' hs)) k
theorem WY:(PP.info? 131).map (·.size)=some 3:=by kernel_rfl
theorem AbK{a:Addr}{x:JN}{w:World}(h:JD w a x.cells.toList):(Instr.loadAt 131 (.pointer (some a))).run PP w = .ok (x.v) w:=by
  obtain⟨i,hi,hn⟩:=ZX WY
  exact DF Tryz.underlying131 hi hn h
theorem Aif{a:Addr}{x:JN}{w:World}(h:JD w a x.cells.toList):(loadVar 131 a).run PP w = .ok (x.v) w:=by
  obtain⟨i,hi,hn⟩:=ZX WY
  exact UF Tryz.underlying131 hi hn h
theorem AcU{a:Addr}{x:JN}{K:JN→World→Prop}{w:World}(h:JD w a x.cells.toList)(k:K x w):BI a K w:=YZ (h:=VT) x (AbK h) k
theorem Ah5{S:World→Prop}{a:Addr}{x:JN}{K:JN→Prop}(h:∀ w',S w'→JD w' a x.cells.toList)(k:K x):AfG S a K:=VQ (h:=VT) x (fun w' hs=>AbK (h w' hs)) k
theorem FW{a:Addr}{x:JN}{K:JN→Prop}{w:World}(h:JD w a x.cells.toList)(k:K x):LO a K w:=⟨x,Aif h,k⟩
theorem Ac3{b o:Nat}{cs:Array Value}{e:TypeId}{x:JN}{K:World→Prop}{w:World}(hb:w.heap[b]? = some (.cells cs e (0,0)))(ho:o+3≤cs.size)(k:∀ w',HZ w b (.cells (ZI cs o x.cells.toList) e (0,0)) w'→K w'):XA ⟨b,o,none⟩ x K w:=by
  obtain⟨i,hi,hn⟩:=ZX WY
  exact CW (XG (v:=x.v) hi hn hb ho (List.all_eq_true.1 rfl)) (k _ rfl)
theorem AaG{a:Addr}{x:Fv}{w:World}(h:w.cell? a=some (x.v)):(Instr.loadAt 142 (.pointer (some a))).run PP w = .ok (x.v) w:=ZK Tryz.underlying142 rfl h
theorem IL{a:Addr}{x:Fv}{K:Fv→World→Prop}{w:World}(h:w.cell? a=some (x.v))(k:K x w):OB a K w:=YZ (h:=hFn) x (AaG h) k
theorem Ag9{S:World→Prop}{a:Addr}{x:Fv}{K:Fv→Prop}(h:∀ w',S w'→w'.cell? a=some (x.v))(k:K x):Aeg S a K:=VQ (h:=hFn) x (fun w' hs=>AaG (h w' hs)) k
theorem Aey:(PP.info? 144).map (·.size)=some 2:=by kernel_rfl
theorem Aig{a:Addr}{x:YA}{w:World}(h:JD w a x.cells.toList):(loadVar 144 a).run PP w = .ok (x.v) w:=by
  obtain⟨i,hi,hn⟩:=ZX Aey
  exact UF Tryz.underlying144 hi hn h
theorem AcV{a:Addr}{x:YA}{K:YA→Prop}{w:World}(h:JD w a x.cells.toList)(k:K x):QA a K w:=⟨x,Aig h,k⟩
theorem RB{b o:Nat}{cs:Array Value}{e:TypeId}{x:YA}{K:World→Prop}{w:World}(hb:w.heap[b]? = some (.cells cs e (0,0)))(ho:o+2≤cs.size)(h1:∀ u∈x.cells.toList,MH u=true)(k:∀ w',HZ w b (.cells (ZI cs o x.cells.toList) e (0,0)) w'→K w'):JX ⟨b,o,none⟩ x K w:=by
  obtain⟨i,hi,hn⟩:=ZX Aey
  exact CW (XG (v:=x.v) hi hn hb ho h1) (k _ rfl)
theorem Aoc:(PP.info? 167).map (·.size)=some 1:=by kernel_rfl
theorem AfO{a:Addr}{x:Int}{w:World}(h:w.cell? a=some (.int .u32 x)):(Instr.loadAt 167 (.pointer (some a))).run PP w = .ok (.int .u32 x) w:=ZK Tryz.underlying167 rfl h
theorem SS{a:Addr}{x:Int}{K:Int→World→Prop}{w:World}(h:w.cell? a=some (.int .u32 x))(k:K x w):AbB a K w:=YZ (h:=QC .u32) x (AfO h) k
theorem AaY{S:World→Prop}{a:Addr}{x:Int}{K:Int→Prop}(h:∀ w',S w'→w'.cell? a=some (.int .u32 x))(k:K x):Acr S a K:=VQ (h:=QC .u32) x (fun w' hs=>AfO (h w' hs)) k
theorem Anf{b o:Nat}{cs:Array Value}{e:TypeId}{x:Int}{K:World→Prop}{w:World}(hb:w.heap[b]? = some (.cells cs e (0,0)))(ho:o+1≤cs.size)(k:∀ w',HZ w b (.cells (ZI cs o [.int .u32 x]) e (0,0)) w'→K w'):OC ⟨b,o,none⟩ x K w:=by
  obtain⟨i,hi,hn⟩:=ZX Aoc
  exact CW (XG (v:=.int .u32 x) hi hn hb ho (List.all_eq_true.1 rfl)) (k _ rfl)
theorem Agm{a:Addr}{x:Sl}{w:World}(h:w.cell? a=some (x.v)):(Instr.loadAt 182 (.pointer (some a))).run PP w = .ok (x.v) w:=ZK Tryz.underlying182 rfl h
theorem AaD{a:Addr}{x:Sl}{K:Sl→World→Prop}{w:World}(h:w.cell? a=some (x.v))(k:K x w):WJ a K w:=YZ (h:=hSl) x (Agm h) k
def YT(m:Option Nat)(k:ByteArray)(K:Option Addr→World→Prop)(w:World):Prop:=rn (Instr.lookup 93 (.map m) (.string k) false) (SO) K w
def IM(S:World→Prop)(m:Option Nat)(k:ByteArray)(K:Option Addr→Prop):Prop:=rnS S (Instr.lookup 93 (.map m) (.string k) false) (SO) K
def FO(m:Option Nat)(k:ByteArray)(K:GI→World→Prop)(w:World):Prop:=rn (Instr.lookup 93 (.map m) (.string k) true) (FE) K w
def Aa0(m:Option Nat)(k:Int)(K:UT→World→Prop)(w:World):Prop:=rn (Instr.lookup 105 (.map m) (.int .i64 k) true) (AX) K w
def AbD(m:Option Nat)(k:ByteArray)(K:UT→World→Prop)(w:World):Prop:=rn (Instr.lookup 147 (.map m) (.string k) true) (AX) K w
def LQ(m:Option Nat)(k:ByteArray)(x:Option Addr)(K:World→Prop)(w:World):Prop:=un (Instr.mapUpdate 93 (.map m) (.string k) (.pointer x)) K w
def IW(m:Option Nat)(k:Int)(x:Int)(K:World→Prop)(w:World):Prop:=un (Instr.mapUpdate 105 (.map m) (.int .i64 k) (.int .i64 x)) K w
def Aem(m:Option Nat)(k:ByteArray)(x:Int)(K:World→Prop)(w:World):Prop:=un (Instr.mapUpdate 147 (.map m) (.string k) (.int .i64 x)) K w
def FY(p0:Sl)(K:Bool→World→Prop)(w:World):Prop:=Cl PP 5 #[p0.v] (JS) K w
def HQ(K:Bool→World→Prop)(w:World):Prop:=Cl PP 9 #[] (JS) K w
def KU(p0:JA)(K:YR→World→Prop)(w:World):Prop:=Cl PP 10 #[p0.v] (XU) K w
def OX(p0:Sl)(K:ZT→World→Prop)(w:World):Prop:=Cl PP 13 #[p0.v] (ZQ) K w
def SA(p0:JL)(p1:ByteArray)(p2:Int)(K:Bool→World→Prop)(w:World):Prop:=Cl PP 14 #[p0.v,.string p1,.int .i64 p2] (JS) K w
def AbQ(p0:Sl)(p1:Sl)(K:Bool→World→Prop)(w:World):Prop:=Cl PP 16 #[p0.v,p1.v] (JS) K w
def Acg(p0:JA)(K:Int→World→Prop)(w:World):Prop:=Cl PP 17 #[p0.v] (QC .i64) K w
def NG(p0:Int)(p1:Int)(p2:Bool)(c0:Addr)(K:Unit→World→Prop)(w:World):Prop:=Cl PP 18 #[.int .i64 p0,.int .i64 p1,.bool p2,.pointer (some c0)] (QK) K w
def AbP(p0:Sl)(K:Int→World→Prop)(w:World):Prop:=Cl PP 19 #[p0.v] (QC .i64) K w
def OL(p0:Int)(p1:Int)(K:Int→World→Prop)(w:World):Prop:=Cl PP 20 #[.int .i64 p0,.int .i64 p1] (QC .i64) K w
def ZF(p0:Option Addr)(p1:JA)(p2:JB)(K:Unit→World→Prop)(w:World):Prop:=Cl PP 21 #[.pointer p0,p1.v,p2.v] (QK) K w
def US(p0:Option Addr)(p1:Int)(p2:JA)(p3:Int)(K:JB→World→Prop)(w:World):Prop:=Cl PP 22 #[.pointer p0,.int .i64 p1,p2.v,.int .i64 p3] (DD) K w
def FB(p0:Option Addr)(K:Unit→World→Prop)(w:World):Prop:=Cl PP 23 #[.pointer p0] (QK) K w
def BB(p0:Option Addr)(K:JL→World→Prop)(w:World):Prop:=Cl PP 24 #[.pointer p0] (DC) K w
def TE(p0:Sl)(K:XE→World→Prop)(w:World):Prop:=Cl PP 34 #[p0.v] (YD) K w
def AaL(p0:Sl)(K:ZT→World→Prop)(w:World):Prop:=Cl PP 35 #[p0.v] (ZQ) K w
def Ach(p0:JA)(K:Int→World→Prop)(w:World):Prop:=Cl PP 37 #[p0.v] (QC .i64) K w
def GX(p0:JA)(K:Bool→World→Prop)(w:World):Prop:=Cl PP 38 #[p0.v] (JS) K w
def FU(p0:Int)(K:Bool→World→Prop)(w:World):Prop:=Cl PP 39 #[.int .i64 p0] (JS) K w
def YU(p0:Option Addr)(p1:ByteArray)(p2:Int)(p3:Bool)(K:Unit→World→Prop)(w:World):Prop:=Cl PP 40 #[.pointer p0,.string p1,.int .i64 p2,.bool p3] (QK) K w
def XO(p0:Option Addr)(p1:JA)(p2:JB)(K:Unit→World→Prop)(w:World):Prop:=Cl PP 41 #[.pointer p0,p1.v,p2.v] (QK) K w
def ZU(p0:Option Addr)(p1:Sl)(p2:JB)(K:Unit→World→Prop)(w:World):Prop:=Cl PP 42 #[.pointer p0,p1.v,p2.v] (QK) K w
def BC(p0:Option Addr)(p1:JA)(p2:JB)(K:Unit→World→Prop)(w:World):Prop:=Cl PP 43 #[.pointer p0,p1.v,p2.v] (QK) K w
def OZ(p0:Option Addr)(p1:JA)(p2:JB)(K:Unit→World→Prop)(w:World):Prop:=Cl PP 44 #[.pointer p0,p1.v,p2.v] (QK) K w
def KA(p0:Option Addr)(p1:JA)(p2:JB)(K:Unit→World→Prop)(w:World):Prop:=Cl PP 45 #[.pointer p0,p1.v,p2.v] (QK) K w
def FA(p0:Option Addr)(p1:JA)(p2:JB)(K:Unit→World→Prop)(w:World):Prop:=Cl PP 46 #[.pointer p0,p1.v,p2.v] (QK) K w
def DK(p0:Option Addr)(p1:JA)(K:Unit→World→Prop)(w:World):Prop:=Cl PP 47 #[.pointer p0,p1.v] (QK) K w
def GN(p0:Option Addr)(p1:Sl)(K:Unit→World→Prop)(w:World):Prop:=Cl PP 48 #[.pointer p0,p1.v] (QK) K w
def XM(p0:Sl)(p1:Fv)(K:Sl→World→Prop)(w:World):Prop:=Cl PP 49 #[p0.v,p1.v] (hSl) K w
def GV(p0:Sl)(K:Sl→World→Prop)(w:World):Prop:=Cl PP 50 #[p0.v] (hSl) K w
def Adm(p0:JA)(K:Bool→World→Prop)(w:World):Prop:=Cl PP 51 #[p0.v] (JS) K w
def GW(p0:Fv)(K:Sl→World→Prop)(w:World):Prop:=Cl PP 52 #[p0.v] (hSl) K w
def QX(p0:Option Nat)(K:Fv→World→Prop)(w:World):Prop:=Cl PP 53 #[.map p0] (hFn) K w
def IC(p0:Option Addr)(p1:Int)(p2:ByteArray)(K:Int→World→Prop)(w:World):Prop:=Cl PP 54 #[.pointer p0,.int .i64 p1,.string p2] (QC .i64) K w
def DJ(p0:Option Addr)(p1:Int)(p2:ByteArray)(K:Int→World→Prop)(w:World):Prop:=Cl PP 55 #[.pointer p0,.int .i64 p1,.string p2] (QC .i64) K w
def UK(p0:Option Addr)(p1:ByteArray)(K:Option Addr→World→Prop)(w:World):Prop:=Cl PP 56 #[.pointer p0,.string p1] (SO) K w
def RC(p0:Fv)(K:Sl→World→Prop)(w:World):Prop:=Cl PP 57 #[p0.v] (hSl) K w
def DM(p0:Option Nat)(K:Fv→World→Prop)(w:World):Prop:=Cl PP 58 #[.map p0] (hFn) K w
def GD(p0:Sl)(p1:ByteArray)(K:Int→World→Prop)(w:World):Prop:=Cl PP 59 #[p0.v,.string p1] (QC .i64) K w
def YL(p0:Option Addr)(p1:Int)(p2:ByteArray)(p3:Int)(K:Unit→World→Prop)(w:World):Prop:=Cl PP 73 #[.pointer p0,.int .i64 p1,.string p2,.int .i64 p3] (QK) K w
def CY(p0:Option Addr)(p1:Int)(p2:Int)(K:Unit→World→Prop)(w:World):Prop:=Cl PP 74 #[.pointer p0,.int .i64 p1,.int .i64 p2] (QK) K w
def CZ(p0:Option Addr)(p1:Int)(K:Int→World→Prop)(w:World):Prop:=Cl PP 75 #[.pointer p0,.int .i64 p1] (QC .i64) K w
def YM(p0:Option Addr)(K:Bool→World→Prop)(w:World):Prop:=Cl PP 76 #[.pointer p0] (JS) K w
def QW(p0:Option Addr)(K:JN→World→Prop)(w:World):Prop:=Cl PP 77 #[.pointer p0] (VT) K w
def DY(p0:Option Addr)(K:JA→World→Prop)(w:World):Prop:=Cl PP 78 #[.pointer p0] (JQ) K w
def JI(p0:Int)(p1:Int)(p2:ByteArray)(p3:Sl)(K:JA→World→Prop)(w:World):Prop:=Cl PP 79 #[.int .i64 p0,.int .i64 p1,.string p2,p3.v] (JQ) K w
def Aai(p0:JA)(p1:Int)(K:UT→World→Prop)(w:World):Prop:=Cl PP 80 #[p0.v,.int .i64 p1] (AX) K w
def Aal(p0:Int)(p1:JA)(p2:Fv)(K:Bool→World→Prop)(w:World):Prop:=Cl PP 82 #[.int .i64 p0,p1.v,p2.v] (JS) K w
def AdG(p0:Int)(p1:JA)(c0:Addr)(K:Bool→World→Prop)(w:World):Prop:=Cl PP 83 #[.int .i64 p0,p1.v,.pointer (some c0)] (JS) K w
def KV(p0:Int)(K:YA→World→Prop)(w:World):Prop:=Cl PP 84 #[.int .i64 p0] (AU) K w
def AaT(p0:ZP)(K:Bool→World→Prop)(w:World):Prop:=Cl PP 85 #[p0.v] (JS) K w
def SE(p0:JA)(K:Bool→World→Prop)(w:World):Prop:=Cl PP 86 #[p0.v] (JS) K w
def FH(c0:Addr)(c1:Addr)(c2:Addr)(c3:Addr)(c4:Addr)(c5:Addr)(K:Unit→World→Prop)(w:World):Prop:=Cl PP 87 #[.pointer (some c0),.pointer (some c1),.pointer (some c2),.pointer (some c3),.pointer (some c4),.pointer (some c5)] (QK) K w
def XR(p0:Sl)(p1:Fv)(K:Int→World→Prop)(w:World):Prop:=Cl PP 88 #[p0.v,p1.v] (QC .i64) K w
def AmE(p0:JA)(K:Bool→World→Prop)(w:World):Prop:=Cl PP 96 #[p0.v] (JS) K w
def VJ(p0:Option Addr)(p1:Int)(p2:Int)(K:Unit→World→Prop)(w:World):Prop:=Cl PP 97 #[.pointer p0,.int .i64 p1,.int .i64 p2] (QK) K w
def KS(p0:Int)(K:Bool→World→Prop)(w:World):Prop:=Cl PP 98 #[.int .u8 p0] (JS) K w
def FG(p0:Int)(K:Bool→World→Prop)(w:World):Prop:=Cl PP 99 #[.int .u8 p0] (JS) K w
def SB(p0:ByteArray)(K:Bool→World→Prop)(w:World):Prop:=Cl PP 100 #[.string p0] (JS) K w
def KT(p0:ByteArray)(K:UP→World→Prop)(w:World):Prop:=Cl PP 101 #[.string p0] (UX) K w
def AbS(p0:Sl)(p1:Int)(K:ByteArray→World→Prop)(w:World):Prop:=Cl PP 102 #[p0.v,.int .i64 p1] (EB) K w
def JJ(p0:Option Addr)(p1:Int)(p2:ByteArray)(K:Bool→World→Prop)(w:World):Prop:=Cl PP 103 #[.pointer p0,.int .i64 p1,.string p2] (JS) K w
def MI(p0:Option Addr)(p1:Int)(K:JA→World→Prop)(w:World):Prop:=Cl PP 104 #[.pointer p0,.int .i64 p1] (JQ) K w
def QJ(p0:Option Addr)(K:JA→World→Prop)(w:World):Prop:=Cl PP 105 #[.pointer p0] (JQ) K w
def YP(p0:Option Addr)(K:JA→World→Prop)(w:World):Prop:=Cl PP 106 #[.pointer p0] (JQ) K w
def DR(p0:Option Addr)(K:JA→World→Prop)(w:World):Prop:=Cl PP 107 #[.pointer p0] (JQ) K w
def JU(p0:Option Addr)(p1:Int)(p2:ByteArray)(K:Unit→World→Prop)(w:World):Prop:=Cl PP 108 #[.pointer p0,.int .i64 p1,.string p2] (QK) K w
def XB(p0:Option Addr)(K:JA→World→Prop)(w:World):Prop:=Cl PP 109 #[.pointer p0] (JQ) K w
def VC(p0:Option Addr)(K:ByteArray→World→Prop)(w:World):Prop:=Cl PP 110 #[.pointer p0] (EB) K w
def HB(p0:Option Addr)(K:Sl→World→Prop)(w:World):Prop:=Cl PP 111 #[.pointer p0] (hSl) K w
def DL(p0:Int)(K:JA→World→Prop)(w:World):Prop:=Cl PP 112 #[.int .i64 p0] (JQ) K w
def XJ(p0:Option Addr)(p1:ByteArray)(K:Bool→World→Prop)(w:World):Prop:=Cl PP 113 #[.pointer p0,.string p1] (JS) K w
def QZ(p0:Option Addr)(K:Unit→World→Prop)(w:World):Prop:=Cl PP 114 #[.pointer p0] (QK) K w
def HA(p0:Option Addr)(p1:Sl)(K:Sl→World→Prop)(w:World):Prop:=Cl PP 115 #[.pointer p0,p1.v] (hSl) K w
def HD(p0:Option Addr)(K:JA→World→Prop)(w:World):Prop:=Cl PP 116 #[.pointer p0] (JQ) K w
def UJ(p0:Option Addr)(p1:Int)(K:Unit→World→Prop)(w:World):Prop:=Cl PP 117 #[.pointer p0,.int .i64 p1] (QK) K w
def KL(p0:Sl)(K:Fv→World→Prop)(w:World):Prop:=Cl PP 122 #[p0.v] (hFn) K w
def Alo(p0:ByteArray)(K:Bool→World→Prop)(w:World):Prop:=Cl PP 123 #[.string p0] (JS) K w
def YB(p0:Sl)(K:Fv→World→Prop)(w:World):Prop:=Cl PP 124 #[p0.v] (hFn) K w
def BY(p0:Int)(K:Fv→World→Prop)(w:World):Prop:=Cl PP 125 #[.int .i64 p0] (hFn) K w
def IT(p0:Int)(p1:Fv)(K:Fv→World→Prop)(w:World):Prop:=Cl PP 126 #[.int .i64 p0,p1.v] (hFn) K w
def Abj(p0:JA)(K:Bool→World→Prop)(w:World):Prop:=Cl PP 127 #[p0.v] (JS) K w
def AdH(p0:JA)(K:Bool→World→Prop)(w:World):Prop:=Cl PP 128 #[p0.v] (JS) K w
def AaV(p0:JA)(K:Bool→World→Prop)(w:World):Prop:=Cl PP 129 #[p0.v] (JS) K w
def BZ(p0:Sl)(K:Fv→World→Prop)(w:World):Prop:=Cl PP 130 #[p0.v] (hFn) K w
def Aip(p0:JA)(K:Bool→World→Prop)(w:World):Prop:=Cl PP 131 #[p0.v] (JS) K w
def SD(p0:JA)(K:Bool→World→Prop)(w:World):Prop:=Cl PP 132 #[p0.v] (JS) K w
def AdJ(p0:JA)(K:Bool→World→Prop)(w:World):Prop:=Cl PP 133 #[p0.v] (JS) K w
def NT(p0:ByteArray)(K:Bool→World→Prop)(w:World):Prop:=Cl PP 134 #[.string p0] (JS) K w
def AjM(p0:JA)(K:Bool→World→Prop)(w:World):Prop:=Cl PP 135 #[p0.v] (JS) K w
def AgE(p0:JA)(K:Bool→World→Prop)(w:World):Prop:=Cl PP 136 #[p0.v] (JS) K w
def AjV(p0:JA)(K:Bool→World→Prop)(w:World):Prop:=Cl PP 137 #[p0.v] (JS) K w
def Ae5(p0:ByteArray)(K:Bool→World→Prop)(w:World):Prop:=Cl PP 138 #[.string p0] (JS) K w
def Aff(p0:JA)(K:Bool→World→Prop)(w:World):Prop:=Cl PP 139 #[p0.v] (JS) K w
def KC(p0:Int)(K:YA→World→Prop)(w:World):Prop:=Cl PP 140 #[.int .i64 p0] (AU) K w
def AmD(p0:JA)(K:Bool→World→Prop)(w:World):Prop:=Cl PP 148 #[p0.v] (JS) K w
def AbW(p0:ByteArray)(K:Bool→World→Prop)(w:World):Prop:=Cl PP 149 #[.string p0] (JS) K w
def AaP(p0:ByteArray)(p1:Int)(K:HI→World→Prop)(w:World):Prop:=Cl PP 156 #[.string p0,.int .i64 p1] (OA) K w
def Ab7(p0:ByteArray)(p1:Int)(K:Int→World→Prop)(w:World):Prop:=Cl PP 157 #[.string p0,.int .i64 p1] (QC .i64) K w
def IF(p0:Option Addr)(p1:Int)(p2:ByteArray)(K:Bool→World→Prop)(w:World):Prop:=Cl PP 158 #[.pointer p0,.int .i64 p1,.string p2] (JS) K w
def DX(p0:Option Addr)(K:JA→World→Prop)(w:World):Prop:=Cl PP 159 #[.pointer p0] (JQ) K w
def VO(p0:Option Addr)(K:JA→World→Prop)(w:World):Prop:=Cl PP 160 #[.pointer p0] (JQ) K w
def EE(p0:JA)(K:Bool→World→Prop)(w:World):Prop:=Cl PP 161 #[p0.v] (JS) K w
def VK(p0:Option Addr)(p1:Int)(p2:Int)(K:Unit→World→Prop)(w:World):Prop:=Cl PP 162 #[.pointer p0,.int .i64 p1,.int .i64 p2] (QK) K w
def VD(p0:Option Addr)(p1:ByteArray)(K:Bool→World→Prop)(w:World):Prop:=Cl PP 163 #[.pointer p0,.string p1] (JS) K w
def GH(p0:Option Addr)(p1:Sl)(K:Sl→World→Prop)(w:World):Prop:=Cl PP 164 #[.pointer p0,p1.v] (hSl) K w
def BX(p0:JN)(K:Bool→World→Prop)(w:World):Prop:=Cl PP 165 #[p0.v] (JS) K w
def BA(p0:Option Addr)(K:JN→World→Prop)(w:World):Prop:=Cl PP 166 #[.pointer p0] (VT) K w
def XD(p0:Option Addr)(K:Bool→World→Prop)(w:World):Prop:=Cl PP 167 #[.pointer p0] (JS) K w
def AF(p0:Option Addr)(K:Sl→World→Prop)(w:World):Prop:=Cl PP 168 #[.pointer p0] (hSl) K w
def AJ(p0:Option Addr)(p1:JA)(K:JA→World→Prop)(w:World):Prop:=Cl PP 169 #[.pointer p0,p1.v] (JQ) K w
def Afj(p0:ByteArray)(c0:Addr)(K:Bool→World→Prop)(w:World):Prop:=Cl PP 173 #[.string p0,.pointer (some c0)] (JS) K w
def HV(p0:Sl)(p1:ByteArray)(K:Bool→World→Prop)(w:World):Prop:=Cl PP 174 #[p0.v,.string p1] (JS) K w
def Afg(p0:JA)(c0:Addr)(K:Bool→World→Prop)(w:World):Prop:=Cl PP 175 #[p0.v,.pointer (some c0)] (JS) K w
def KD(p0:Sl)(p1:Sl)(K:Bool→World→Prop)(w:World):Prop:=Cl PP 176 #[p0.v,p1.v] (JS) K w
def Aiq(p0:JA)(c0:Addr)(K:Bool→World→Prop)(w:World):Prop:=Cl PP 177 #[p0.v,.pointer (some c0)] (JS) K w
def Afi(p0:JA)(c0:Addr)(c1:Addr)(K:Bool→World→Prop)(w:World):Prop:=Cl PP 178 #[p0.v,.pointer (some c0),.pointer (some c1)] (JS) K w
def Aak(p0:Sl)(p1:Fv)(K:Bool→World→Prop)(w:World):Prop:=Cl PP 179 #[p0.v,p1.v] (JS) K w
def AaS(p0:JA)(K:Bool→World→Prop)(w:World):Prop:=Cl PP 180 #[p0.v] (JS) K w
def Air(p0:JA)(c0:Addr)(K:Bool→World→Prop)(w:World):Prop:=Cl PP 181 #[p0.v,.pointer (some c0)] (JS) K w
def GR(p0:Sl)(p1:Fv)(K:Bool→World→Prop)(w:World):Prop:=Cl PP 182 #[p0.v,p1.v] (JS) K w
def Afh(p0:Fv)(c0:Addr)(K:Bool→World→Prop)(w:World):Prop:=Cl PP 183 #[p0.v,.pointer (some c0)] (JS) K w
def AbR(p0:ByteArray)(K:Bool→World→Prop)(w:World):Prop:=Cl PP 184 #[.string p0] (JS) K w
def AaU(p0:Sl)(K:Bool→World→Prop)(w:World):Prop:=Cl PP 185 #[p0.v] (JS) K w
def AjF(p0:ByteArray)(K:Bool→World→Prop)(w:World):Prop:=Cl PP 186 #[.string p0] (JS) K w
def Aaj(p0:Fv)(K:Fv→World→Prop)(w:World):Prop:=Cl PP 187 #[p0.v] (hFn) K w
def Aio(p0:JA)(K:Bool→World→Prop)(w:World):Prop:=Cl PP 188 #[p0.v] (JS) K w
def AdF(p0:ByteArray)(K:Bool→World→Prop)(w:World):Prop:=Cl PP 211 #[.string p0] (JS) K w
def NS(p0:ByteArray)(p1:Int)(p2:Int)(K:Int→World→Prop)(w:World):Prop:=Cl PP 218 #[.string p0,.int .i64 p1,.int .i64 p2] (QC .i64) K w
def NR(p0:ByteArray)(K:Sl→World→Prop)(w:World):Prop:=Cl PP 219 #[.string p0] (hSl) K w
def EZ(p0:Option Addr)(K:JA→World→Prop)(w:World):Prop:=Cl PP 220 #[.pointer p0] (JQ) K w
def IZ(p0:Option Addr)(K:JA→World→Prop)(w:World):Prop:=Cl PP 221 #[.pointer p0] (JQ) K w
def IY(p0:Option Addr)(p1:Sl)(K:Sl→World→Prop)(w:World):Prop:=Cl PP 222 #[.pointer p0,p1.v] (hSl) K w
def OY(p0:ByteArray)(K:GC→World→Prop)(w:World):Prop:=Cl PP 223 #[.string p0] (BQ) K w
def VR(p0:Option Addr)(p1:Sl)(K:ByteArray→World→Prop)(w:World):Prop:=Cl PP 224 #[.pointer p0,p1.v] (EB) K w
def GM(p0:Sl)(K:Sl→World→Prop)(w:World):Prop:=Cl PP 226 #[p0.v] (hSl) K w
def VW(p0:Sl)(p1:Fv)(K:Bool→World→Prop)(w:World):Prop:=Cl PP 228 #[p0.v,p1.v] (JS) K w
def Afe(p0:JA)(c0:Addr)(K:Bool→World→Prop)(w:World):Prop:=Cl PP 229 #[p0.v,.pointer (some c0)] (JS) K w
def DS(p0:Sl)(p1:Fv)(K:Int→World→Prop)(w:World):Prop:=Cl PP 230 #[p0.v,p1.v] (QC .i64) K w
def CA(p0:ByteArray)(K:Bool→World→Prop)(w:World):Prop:=Cl PP 231 #[.string p0] (JS) K w
def Afd(p0:JA)(c0:Addr)(K:Bool→World→Prop)(w:World):Prop:=Cl PP 232 #[p0.v,.pointer (some c0)] (JS) K w
def MN(p0:Option Addr)(K:JA→World→Prop)(w:World):Prop:=Cl PP 243 #[.pointer p0] (JQ) K w
def IB(p0:Option Addr)(p1:Int)(K:JA→World→Prop)(w:World):Prop:=Cl PP 244 #[.pointer p0,.int .i64 p1] (JQ) K w
def HE(p0:Option Addr)(p1:Int)(K:JA→World→Prop)(w:World):Prop:=Cl PP 245 #[.pointer p0,.int .i64 p1] (JQ) K w
def IA(p0:Option Addr)(p1:Int)(K:JA→World→Prop)(w:World):Prop:=Cl PP 246 #[.pointer p0,.int .i64 p1] (JQ) K w
def Ab6(p0:ByteArray)(K:MF→World→Prop)(w:World):Prop:=Cl PP 247 #[.string p0] (YJ) K w
def AdE(p0:Bool)(p1:Sl)(K:ZP→World→Prop)(w:World):Prop:=Cl PP 248 #[.bool p0,p1.v] (EI) K w
def EO(p0:Option Addr)(K:JA→World→Prop)(w:World):Prop:=Cl PP 252 #[.pointer p0] (JQ) K w
def VB(p0:Option Addr)(p1:Sl)(K:Sl→World→Prop)(w:World):Prop:=Cl PP 253 #[.pointer p0,p1.v] (hSl) K w
def VL(p0:Option Addr)(p1:Sl)(K:Sl→World→Prop)(w:World):Prop:=Cl PP 254 #[.pointer p0,p1.v] (hSl) K w
def ED(p0:Option Addr)(K:JA→World→Prop)(w:World):Prop:=Cl PP 255 #[.pointer p0] (JQ) K w
def MJ(p0:Sl)(p1:Sl)(K:Sl→World→Prop)(w:World):Prop:=Cl PP 256 #[p0.v,p1.v] (hSl) K w
def GU(p0:Sl)(p1:Sl)(K:Sl→World→Prop)(w:World):Prop:=Cl PP 257 #[p0.v,p1.v] (hSl) K w
def UV(p0:Option Addr)(p1:Int)(K:JA→World→Prop)(w:World):Prop:=Cl PP 258 #[.pointer p0,.int .i64 p1] (JQ) K w
def AE(p0:Option Addr)(K:JA→World→Prop)(w:World):Prop:=Cl PP 259 #[.pointer p0] (JQ) K w
end
end Go.Proofs.YtjiagmjfnbljjaaGreatDoor
end
section
namespace Go.Proofs.YtjiagmjfnbljjaaGreatDoor
open Go
inductive Nd where
  | mk (kind at_:Int) (text:ByteArray) (neg:Bool) (mag:List Int) (kids:List Nd)
namespace Nd
def kind:Nd→Int | mk k _ _ _ _ _=>k
def at_:Nd→Int | mk _ a _ _ _ _=>a
def text:Nd→ByteArray | mk _ _ t _ _ _=>t
def neg:Nd→Bool | mk _ _ _ g _ _=>g
def mag:Nd→List Int | mk _ _ _ _ m _=>m
def kids:Nd→List Nd | mk _ _ _ _ _ ks=>ks
end Nd
mutual
def Nd.wt:Nd→Nat
  | .mk _ _ t _ m ks=>1+t.size+m.length+Nd.wts ks
def Nd.wts:List Nd→Nat
  | []=>0
  | k :: r=>Nd.wt k+Nd.wts r
end
theorem Nd.wt_eq(n:Nd):n.wt=1+n.text.size+n.mag.length+Nd.wts n.kids:=by cases n;rfl
theorem Nd.wt_pos(n:Nd):0<n.wt:=by rw[Nd.wt_eq];omega
theorem Nd.wts_mem{k:Nd}{l:List Nd}(h:k∈l):k.wt≤Nd.wts l:=by
  induction l with
  | nil=>cases h
  | cons x r ih=>
    simp only[Nd.wts]
    rcases List.mem_cons.1 h with rfl | h
    · omega
    · have:=ih h;omega
theorem Nd.wts_length(l:List Nd):l.length≤Nd.wts l:=by
  induction l with
  | nil=>simp
  | cons x r ih=>have:=x.wt_pos;simp only[List.length_cons,Nd.wts];omega
theorem Nd.wt_lt{n k:Nd}(h:k∈n.kids):k.wt<n.wt:=by
  have:=Nd.wts_mem h
  rw[Nd.wt_eq n];omega
theorem Nd.wts_lt(n:Nd):Nd.wts n.kids<n.wt:=by rw[Nd.wt_eq n];omega
theorem Nd.text_lt(n:Nd):n.text.size<n.wt:=by rw[Nd.wt_eq n];omega
theorem Nd.mag_lt(n:Nd):n.mag.length<n.wt:=by rw[Nd.wt_eq n];omega
def Aox(w:World)(B:Nat)(m:List Int)(s:Sl):Prop:=
  s.n=m.length∧s.n≤s.c∧(∀ v∈m,0≤v∧v<4294967296)∧(s.a=none→s.c=0)∧∀ a,s.a=some a→(m≠[]→a.block<B)∧JD w a (m.map (.int .u32 ·))
mutual
def Rep(w:World)(B:Nat):Nd→JA→Prop
  | .mk k a t g m ks,x=>x.Kind=k∧x.At=a∧x.Text=t∧x.Num_Neg=g∧Aox w B m x.Num_Mag∧x.Kids.n=ks.length∧x.Kids.n≤x.Kids.c∧(x.Kids.a=none→x.Kids.c=0)∧IS w B ks x.Kids.a
def IS(w:World)(B:Nat):List Nd→Option Addr→Prop
  | [],_=>True
  | k :: ks,p=>∃ a,p=some a∧a.block<B∧(∃ x:JA,JD w a x.cells.toList∧Rep w B k x)∧IS w B ks (some (a.add 6))
end
def HS(w:World)(B:Nat)(ks:List Nd)(s:Sl):Prop:=s.n=ks.length∧s.n≤s.c∧(s.a=none→s.c=0)∧IS w B ks s.a
theorem AhT(a:Addr)(n:Nat):(a.add n).block=a.block:=by unfold Addr.add;split<;>rfl
theorem Aox.fr{D:Nat→Prop}{w w':World}{B:Nat}{m:List Int}{s:Sl}(h:Aox w B m s)(e:Fr D w w')(hd:∀ b,b<B→¬ D b):Aox w' B m s:=by
  obtain⟨h1,h2,h3,h4,h5⟩:=h
  refine⟨h1,h2,h3,h4,fun a ha => ?_⟩
  obtain⟨h6,h7⟩:=h5 a ha
  refine⟨h6,?_⟩
  by_cases hm:m = []
  · subst hm;intro i v hi;simp at hi
  · exact h7.fr e (hd _ (h6 hm))
mutual
theorem Rep.fr{D:Nat→Prop}{w w':World}{B:Nat}(e:Fr D w w')(hd:∀ b,b<B→¬ D b):∀ (n:Nd) (x:JA),Rep w B n x→Rep w' B n x
  | .mk k a t g m ks,x,h=>by
    unfold Rep at h ⊢
    obtain⟨h1,h2,h3,h4,h5,h6,h7,h7',h8⟩:=h
    exact⟨h1,h2,h3,h4,h5.fr e hd,h6,h7,h7',IS.fr e hd ks _ h8⟩
theorem IS.fr{D:Nat→Prop}{w w':World}{B:Nat}(e:Fr D w w')(hd:∀ b,b<B→¬ D b):∀ (ks:List Nd) (p:Option Addr),IS w B ks p→IS w' B ks p
  | [],_,_=>by unfold IS;trivial
  | k :: ks,p,h=>by
    unfold IS at h ⊢
    obtain⟨a,ha,hb,⟨x,hc,hx⟩,hr⟩:=h
    exact⟨a,ha,hb,⟨x,hc.fr e (hd _ hb),Rep.fr e hd k x hx⟩,IS.fr e hd ks _ hr⟩
end
theorem HS.fr{D:Nat→Prop}{w w':World}{B:Nat}{ks:List Nd}{s:Sl}(h:HS w B ks s)(e:Fr D w w')(hd:∀ b,b<B→¬ D b):HS w' B ks s:=⟨h.1,h.2.1,h.2.2.1,IS.fr e hd _ _ h.2.2.2⟩
theorem Rep.ext{w w':World}{B:Nat}{n:Nd}{x:JA}(h:Rep w B n x)(e:Ext w w'):Rep w' B n x:=Rep.fr e (fun _ _ h=>h) n x h
theorem HS.ext{w w':World}{B:Nat}{ks:List Nd}{s:Sl}(h:HS w B ks s)(e:Ext w w'):HS w' B ks s:=h.fr e fun _ _ h=>h
section
variable{w:World}{B:Nat}
theorem Rep.kind{n:Nd}{x:JA}(h:Rep w B n x):x.Kind=n.kind:=by cases n;unfold Rep at h;exact h.1
theorem Rep.at_{n:Nd}{x:JA}(h:Rep w B n x):x.At=n.at_:=by cases n;unfold Rep at h;exact h.2.1
theorem Rep.text{n:Nd}{x:JA}(h:Rep w B n x):x.Text=n.text:=by cases n;unfold Rep at h;exact h.2.2.1
theorem Rep.neg{n:Nd}{x:JA}(h:Rep w B n x):x.Num_Neg=n.neg:=by cases n;unfold Rep at h;exact h.2.2.2.1
theorem Rep.mag{n:Nd}{x:JA}(h:Rep w B n x):Aox w B n.mag x.Num_Mag:=by cases n;unfold Rep at h;exact h.2.2.2.2.1
theorem Rep.kids{n:Nd}{x:JA}(h:Rep w B n x):HS w B n.kids x.Kids:=by cases n;unfold Rep at h;exact h.2.2.2.2.2
theorem Rep.eq{n:Nd}{x:JA}(h:Rep w B n x):∃ s1 s2,x=⟨n.kind,n.at_,n.text,n.neg,s1,s2⟩∧Aox w B n.mag s1∧HS w B n.kids s2:=by
  refine⟨x.Num_Mag,x.Kids,?_,h.mag,h.kids⟩
  rw[← h.kind,← h.at_,← h.text,← h.neg]
theorem IS.get{ks:List Nd}{p:Option Addr}(h:IS w B ks p){i:Nat}{k:Nd}(hi:ks[i]? = some k):∃ a x,p=some a∧a.block<B∧JD w (a.add (i * 6)) (JA.cells x).toList∧Rep w B k x:=by
  induction ks generalizing p i with
  | nil=>simp at hi
  | cons k0 ks ih=>
    unfold IS at h
    obtain⟨a,ha,hb,⟨x,hc,hx⟩,hr⟩:=h
    cases i with
    | zero=>
      simp at hi;subst hi
      exact⟨a,x,ha,hb,by simpa [JP] using hc,hx⟩
    | succ i=>
      obtain⟨a',x',ha',_,hc',hx'⟩:=ih hr (i:=i) (by simpa using hi)
      simp only[Option.some.injEq] at ha'
      subst ha'
      refine⟨a,x',ha,hb,?_,hx'⟩
      rw[II] at hc'
      rw[show(i+1) * 6=6+i * 6 by omega];exact hc'
theorem HS.get{ks:List Nd}{s:Sl}(h:HS w B ks s){i:Nat}(hi:i<ks.length):∃ a x,s.a=some a∧a.block<B∧JD w (a.add (i * 6)) (JA.cells x).toList∧Rep w B ks[i] x:=
  IS.get h.2.2.2 (List.getElem?_eq_getElem hi)
theorem IS.drop{ks:List Nd}{a:Addr}(h:IS w B ks (some a)):∀ j,IS w B (ks.drop j) (some (a.add (j * 6))):=by
  intro j
  induction j generalizing ks a with
  | zero=>simpa [JP] using h
  | succ j ih=>
    cases ks with
    | nil=>simp[IS]
    | cons k ks=>
      unfold IS at h
      obtain⟨a',ha',_,_,hr⟩:=h
      simp only[Option.some.injEq] at ha'
      subst ha'
      have:=ih hr
      rw[II] at this
      rw[show(j+1) * 6=6+j * 6 by omega]
      simpa using this
theorem IS.take{ks:List Nd}{p:Option Addr}(h:IS w B ks p):∀ j,IS w B (ks.take j) p:=by
  intro j
  induction j generalizing ks p with
  | zero=>simp[IS]
  | succ j ih=>
    cases ks with
    | nil=>simp[IS]
    | cons k ks=>
      unfold IS at h
      obtain⟨a,ha,hb,hx,hr⟩:=h
      simp only[List.take_succ_cons]
      unfold IS
      exact⟨a,ha,hb,hx,ih hr⟩
end
def Sl.from_(s:Sl)(lo sz:Nat):Sl:=⟨if s.c=lo then s.a else s.a.map (·.add (lo * sz)),s.n - lo,s.c - lo⟩
def Sl.to_(s:Sl)(hi:Nat):Sl:=⟨s.a,hi,s.c⟩
theorem HS.from_{w:World}{B:Nat}{ks:List Nd}{s:Sl}(h:HS w B ks s){lo:Nat}(hl:lo≤ks.length):HS w B (ks.drop lo) (s.from_ lo 6):=by
  obtain⟨h1,h2,h2',h3⟩:=h
  refine⟨by simp[Sl.from_,h1],by simp only[Sl.from_];omega,?_,?_⟩
  · unfold Sl.from_
    simp only
    split
    · intro _;omega
    · intro ha
      have:s.a=none:=by cases ha':s.a<;>simp_all
      have:=h2' this;omega
  unfold Sl.from_
  simp only
  split
  · have:ks.drop lo = []:=List.drop_eq_nil_of_le (by omega)
    rw[this];unfold IS;trivial
  · cases ha:s.a with
    | none=>
      rw[ha] at h3
      cases ks with
      | nil=>simp[IS]
      | cons k ks=>unfold IS at h3;obtain⟨a,h,_⟩:=h3;cases h
    | some a=>rw[ha] at h3;exact IS.drop h3 lo
theorem HS.to_{w:World}{B:Nat}{ks:List Nd}{s:Sl}(h:HS w B ks s){hi:Nat}(hl:hi≤ks.length):HS w B (ks.take hi) (s.to_ hi):=by
  obtain⟨h1,h2,h2',h3⟩:=h
  exact⟨by simp[Sl.to_];omega,by simp only[Sl.to_];omega,h2',IS.take h3 hi⟩
section
variable{P:Program}{w:World}{t e:TypeId}{i:TypeInfo}
theorem WS(hu:P.underlying t=some (.slice e))(hi:P.info? e=some i)(s:Sl)(lo:Int)(h0:0≤lo)(h1:lo≤s.n) :
    (Instr.sliceAt t s.v (some (.int .i64 lo)) none none).run P w = .ok (s.from_ lo.toNat i.size).v w:=by
  have h2:((lo.toNat:Nat):Int)=lo:=by omega
  simp[Instr.sliceAt,underlying,hu,Sl.v,Instr.slice,Instr.sliceBounds,Instr.sliceBound,asIntOf,h0,h1,sizeOf,typeInfo,hi,Sl.from_]
theorem AcC(hu:P.underlying t=some (.slice e))(hi:P.info? e=some i)(s:Sl)(h:Int)(h0:0≤h)(h1:h≤s.c) :
    (Instr.sliceAt t s.v none (some (.int .i64 h)) none).run P w = .ok (s.to_ h.toNat).v w:=by
  have h3:(s.a.map (·.add 0))=s.a:=by cases s.a<;>simp[JP]
  simp[Instr.sliceAt,underlying,hu,Sl.v,Instr.slice,Instr.sliceBounds,Instr.sliceBound,asIntOf,h0,h1,sizeOf,typeInfo,hi,Sl.to_,h3]
theorem HU(hu:P.underlying t=some .string)(s:ByteArray)(k:Int)(h0:0≤k)(h1:k.toNat<s.size) :
    (Instr.index t (.string s) (.int .i64 k)).run P w = .ok (.int .u8 (s[k.toNat]).toNat) w:=by
  simp[Instr.index,asIntOf,underlying,hu,h0,h1]
end
def Own(w:World)(B:Nat)(e:TypeId)(sz:Nat)(s:Sl)(xs:List Value):Prop:=w.ownsRow B e sz s.v s.n xs
def OQ(w:World)(s:Sl)(news:List Value):Prop:=(s.a=none→s.n=0∧s.c=0)∧∀ a,s.a=some a→JD w a news
theorem Agf(v:Value):v.oneCell'=MH v:=by cases v<;>rfl
theorem Own.nil(w:World)(B:Nat)(e:TypeId)(sz:Nat):Own w B e sz ⟨none,0,0⟩ []:=World.ownsRow_nil w B e sz
theorem Own.fr{D:Nat→Prop}{w w':World}{B:Nat}{e:TypeId}{sz:Nat}{s:Sl}{xs:List Value}(h:Own w B e sz s xs)(hf:Fr D w w')(hd:∀ b,s.a=some ⟨b,0,none⟩→¬ D b):Own w' B e sz s xs:=by
  obtain⟨h1,h2⟩:=h
  refine⟨h1,?_⟩
  rcases h2 with h2 | ⟨g,cap,cur,hv,hb,hg,r⟩
  · exact .inl h2
  · refine .inr ⟨g,cap,cur,hv,hb,hf.get hg (hd g ?_),r⟩
    simp only[Sl.v,Value.slice.injEq] at hv
    exact hv.1
theorem Own.ext{w w':World}{B:Nat}{e:TypeId}{sz:Nat}{s:Sl}{xs:List Value}(h:Own w B e sz s xs)(hf:Ext w w'):Own w' B e sz s xs:=h.fr hf fun _ _ h=>h
theorem Own.cells{w:World}{B:Nat}{e:TypeId}{sz:Nat}{s:Sl}{xs:List Value}(h:Own w B e sz s xs):OQ w s xs:=by
  obtain⟨h1,h2⟩:=h
  rcases h2 with⟨hv,hn⟩ | ⟨g,cap,cur,hv,hb,hg,hn,hm,hc,ht⟩
  · simp only[Sl.v,Value.slice.injEq] at hv
    refine⟨fun _=>⟨hv.2.1,hv.2.2⟩,fun a ha => ?_⟩
    rw[hv.1] at ha;cases ha
  · simp only[Sl.v,Value.slice.injEq] at hv
    refine⟨fun ha => ?_,fun a ha => ?_⟩
    · rw[hv.1] at ha;cases ha
    · rw[hv.1] at ha
      simp only[Option.some.injEq] at ha
      subst ha
      refine .mk hg fun i v hi => ?_
      rw[← ht,List.getElem?_take] at hi
      split at hi
      · simpa using hi
      · cases hi
theorem Own.len{w:World}{B:Nat}{e:TypeId}{sz:Nat}{s:Sl}{xs:List Value}(h:Own w B e sz s xs):xs.length=s.n * sz:=h.1
theorem Own.old{w:World}{B:Nat}{e:TypeId}{sz:Nat}{s:Sl}{xs:List Value}(h:Own w B e sz s xs){b:Nat}(hb:s.a=some ⟨b,0,none⟩):B≤b∧b<w.heap.size:=by
  obtain⟨h1,h2⟩:=h
  rcases h2 with⟨hv,hn⟩ | ⟨g,cap,cur,hv,hB,hg,r⟩
  · simp only[Sl.v,Value.slice.injEq] at hv
    rw[hv.1] at hb;cases hb
  · simp only[Sl.v,Value.slice.injEq] at hv
    rw[hv.1] at hb
    simp only[Option.some.injEq,Addr.mk.injEq,and_true] at hb
    subst hb
    exact⟨hB,ZC hg⟩
theorem AtR{P:Program}{w:World}{t ty e:TypeId}{i:TypeInfo}{z:Value}{by_:Nat}(ht:P.underlying t=some (.slice e))(hi:P.info? e=some i)(hz:i.zero=some z)(hzs:z.cells.size=i.size)(hsz:0<i.size)(hby:i.bytes=by_)
    {B:Nat} {s src:Sl} {xs news:List Value} (hown:Own w B e i.size s xs) (hsrc:OQ w src news) (hn:news.length=src.n * i.size) (h1:∀ u∈news,MH u=true) (h63:s.n+src.n≤9223372036854775807) (hbytes:(s.n+src.n) * by_≤140737488355328) (hB:B≤w.heap.size) :
    ∃ s' w',(Builtin.append_ #[t,t] ty #[s.v,src.v]).run P w = .ok (Sl.v s') w'∧s'.n=s.n+src.n∧Own w' B e i.size s' (xs++news)∧Fr (fun b=>s.a=some ⟨b,0,none⟩) w w'∧(∀ b,s'.a=some ⟨b,0,none⟩→s.a=some ⟨b,0,none⟩∨w.heap.size≤b):=by
  cases ha:src.a with
  | none=>
    obtain⟨hn0,hc0⟩:=hsrc.1 ha
    have hrun:=run_append_owned_none (P:=P) (w:=w) B t ty e i i.size ht hi s.v s.n xs hown
    have hsv:src.v = .slice none 0 0:=by simp[Sl.v,ha,hn0,hc0]
    have hnil:news = []:=by
      have:news.length=0:=by rw[hn,hn0];simp
      exact List.length_eq_zero_iff.1 this
    subst hnil
    rw[hsv]
    exact⟨s,w,hrun,by omega,by simpa using hown,Fr.refl _ _,fun b hb=>.inl hb⟩
  | some a=>
    obtain⟨v',w',hrun,hown',hg,hnil⟩:=run_append_own (P:=P) w B t ty e i z i.size by_ ht hi hz rfl hby hzs hsz s.v s.n xs hown a src.n src.c news hn (fun j u hj=>hsrc.2 a ha j u hj) (fun u hu=>by rw[Agf];exact h1 u hu) (by unfold maxLen;omega) hbytes hB
    have hsv:src.v = .slice (some a) src.n src.c:=by simp[Sl.v,ha]
    rw[hsv]
    have hob:∀ b,s.v.ownBlock=some b→s.a=some ⟨b,0,none⟩:=by
      intro b hb
      rcases hown.2 with⟨hv,_⟩ | ⟨g,cap,cur,hv,_⟩
      · rw[hv] at hb;cases hb
      · have hv2:=hv
        rw[hv] at hb
        simp only[Value.ownBlock,Option.some.injEq] at hb
        simp only[Sl.v,Value.slice.injEq] at hv2
        rw[hv2.1,hb]
    have hfr:Fr (fun b=>s.a=some ⟨b,0,none⟩) w w':=by
      refine⟨hg.os,hg.tape,hg.output,hg.size,fun b o hd hb => ?_⟩
      rw[hg.block b (ZC hb) fun e=>hd (hob b e.symm)];exact hb
    have hsh:∃ s':Sl,v'=s'.v∧s'.n=s.n+src.n:=by
      rcases hown'.2 with⟨hv,hn'⟩ | ⟨g,cap,cur,hv,_⟩
      · exact⟨⟨none,0,0⟩,hv,by simp;omega⟩
      · exact⟨⟨some ⟨g,0,none⟩,s.n+src.n,cap⟩,hv,rfl⟩
    obtain⟨s',rfl,hs'n⟩:=hsh
    have hown2:Own w' B e i.size s' (xs++news):=by unfold Own;rw[hs'n];exact hown'
    refine⟨s',w',hrun,hs'n,hown2,hfr,fun b hb => ?_⟩
    rcases hown.2 with⟨hv,hn0⟩ | ⟨g,cap,cur,hv,hbg,hgg,hnc,hcm,hcs,htake⟩
    · have h0:=World.ownsRow_nil w w.heap.size e i.size
      have hx:xs = []:=List.eq_nil_of_length_eq_zero (by rw[hown.1,hn0];simp)
      obtain⟨v2,w2,hrun2,hown3,_,_⟩:=run_append_own (P:=P) w w.heap.size t ty e i z i.size by_ ht hi hz rfl hby hzs hsz _ 0 [] h0 a src.n src.c news hn (fun j u hj=>hsrc.2 a ha j u hj) (fun u hu=>by rw[Agf];exact h1 u hu) (by unfold maxLen;omega) (by rw[hn0] at hbytes;exact hbytes) (Nat.le_refl _)
      rw[hv] at hrun
      rw[hrun] at hrun2
      simp only[Result.ok.injEq] at hrun2
      obtain⟨rfl,rfl⟩:=hrun2
      right
      refine(World.ownsRow.lt (w:=w') (base:=w.heap.size) hown3 b ?_).1
      simp[Sl.v,hb,Value.ownBlock]
    · have hv2:=hv
      simp only[Sl.v,Value.slice.injEq] at hv2
      rw[hv] at hrun
      by_cases hroom:s.n+src.n≤cap
      · have hfit:s.n * i.size+news.length≤cur.size:=by rw[hn,hcs,← Nat.add_mul];exact Nat.mul_le_mul_right _ hroom
        have hr:=run_append_room (P:=P) w t ty e i ht hi g s.n cap cur hgg a src.n src.c news hn (fun j u hj=>hsrc.2 a ha j u hj) (fun u hu=>by rw[Agf];exact h1 u hu) hroom hfit
        rw[hrun] at hr
        simp only[Result.ok.injEq,Sl.v,Value.slice.injEq] at hr
        left
        rw[hv2.1,← hr.1.1,hb]
      · have hr:=run_append_grow (P:=P) w t ty e i z ht hi hz ⟨g,0,none⟩ s.n cap xs hown.1 (fun j u hj=>hown.cells.2 _ hv2.1 j u hj) a src.n src.c news hn (fun j u hj=>hsrc.2 a ha j u hj) (by omega) (by omega) (growslice_fits (by omega) (by rw[hby];exact hbytes))
        rw[hrun] at hr
        simp only[Result.ok.injEq,Sl.v,Value.slice.injEq] at hr
        have h3:=hr.1.1
        rw[hb] at h3
        simp only[Option.some.injEq,Addr.mk.injEq,and_true] at h3
        right;omega
def Rdv{α:Type}(C:(α→World→Prop)→World→Prop)(v:α)(w:World):Prop:=∀ K:α→World→Prop,(∀ w',Ext w w'→K v w')→C K w
theorem LG.cells{w w':World}{cs:Array Value}{t:TypeId}{fz:Nat×Nat}{a:Addr}(h:LG w (.cells cs t fz) a w'):JD w' a cs.toList:=by
  have hg:=h.get
  have ha:=h.addr
  subst ha
  exact .all hg
theorem Rt.mk{h:UO}{K:h.ty→World→Prop}{w:World}(x:h.ty)(k:K x w):Rt h K (h.val x) w:=⟨x,rfl,k⟩
theorem JY{x:Int}(h0 : -9223372036854775808≤x)(h1:x≤9223372036854775807):IntKind.i64.wrap x=x:=by
  simp only[IntKind.wrap,IntKind.bits,IntKind.signed]
  first | omega | (simp;omega)
end Go.Proofs.YtjiagmjfnbljjaaGreatDoor
end
section
namespace Go.Proofs.YtjiagmjfnbljjaaGreatDoor
open Go
set_option linter.unusedVariables false
set_option maxRecDepth 100000
noncomputable def AdT(n0:JA)(R:Value→World→Prop)(w:World):Prop:=
 bx (.cells n0.cells 27) (fun n1 w=>
 bx (.cells #[.int .i64 0,.int .i64 0] 32) (fun a2 w=>
 JF n1 (fun(x3:JA) w=>
 Acg x3 (fun(i4:Int) w=>
 br (i4 != (0:Int))
 (ZO a2 ⟨106,0⟩ (fun w=>
 XS a2 (fun r5=>
 R (.tuple #[.slice none 0 0,r5.v]) w) w) w)
 (bx (.cells #[.int .i64 0,.int .i64 0] 32) (fun least6 w=>
 bx (.cells #[.slice none 0 0,.func (.func 18) #[] #[.pointer (some least6)],.slice none 0 0] 60) (fun a7 w=>
 dw (fun w=>
 ∃ S8:World→Prop,S8 w∧
 QM S8 (n1.add 5) fun(l9:Sl)=>
 nn l9.a fun a10=>
 0≤(0:Int)∧(0:Int)<((l9.n:Nat):Int)∧
 QB S8 a10 fun(x11:JA)=>
 QB S8 n1 fun(x12:JA)=>
 US (some a7) 1 x12 (-1) (fun(x13:JB) w=>
 S8 w∧
 ZF (some a7) x11 x13 (fun(x14:Unit) w=>
 ArT (a7.add 2) (fun(l15:Sl) w=>
 Lp (α:=Int) (fun x16=>[.int .i64 x16]) [.int .i64 0] (fun x16 again17 w=>
 br (decide (x16<(l15.n:Int)))
 (nn l15.a fun a18=>
 0≤x16∧x16<((l15.n:Nat):Int)∧
 ArR (a18.add (x16.toNat * 1)) (fun(x19:Fv) w=>
 clv (x19.v) #[] (QK) (fun(x20:Unit) w=>
 again17 [.int .i64 (IntKind.i64.wrap (x16+1))] w) w) w)
 (JK least6 (fun(i21:Int) w=>
 br (i21 != (0:Int))
 (dw (fun w=>
 ∃ S22:World→Prop,S22 w∧
 FM S22 least6 fun(x23:QI)=>
 ZO a2 x23 (fun w=>
 XS a2 (fun r24=>
 R (.tuple #[.slice none 0 0,r24.v]) w) w) w) w)
 (FB (some a7) (fun(x25:Unit) w=>
 QN a7 (fun(l26:Sl) w=>
 Lp (α:=Sl×Int) (fun x27=>[x27.1.v,.int .i64 x27.2]) [.slice none 0 0,.int .i64 0] (fun x27 again28 w=>
 br (decide (x27.2<(l26.n:Int)))
 (nn l26.a fun a29=>
 0≤x27.2∧x27.2<((l26.n:Nat):Int)∧
 ZA (a29.add (x27.2.toNat * 1)) (fun(p30:Option Addr) w=>
 BB p30 (fun(x31:JL) w=>
 bx (.cells #[.int .i64 x31.Kind,.int .i64 x31.At,.int .i64 x31.Around,x31.Uses.v,.int .i64 x31.Locals,.int .i64 x31.Cells,.int .i64 x31.Frees] 38) (fun a32 w=>
 rn (Builtin.append_ #[30,30] 30 #[x27.1.v,.slice (some a32) 1 1]) (hSl) (fun(l33:Sl) w=>
 again28 [l33.v,.int .i64 (IntKind.i64.wrap (x27.2+1))] w) w) w) w) w)
 (ZO a2 ⟨0,0⟩ (fun w=>
 XS a2 (fun r34=>
 R (.tuple #[x27.1.v,r34.v]) w) w) w)) w) w) w)) w)) w) w) w) w) w) w) w)) w) w) w) w
theorem AgC(n0:JA)(K:YR→World→Prop)(w:World)(h:AdT n0 (Rt (XU) K) w):KU n0 K w:=
  fnc (A:=[(7,[(32,QC .i64)]),(16,[(8,hSl),(50,QC .i64)])]) (by kernel_rfl) Tryz.func10 Tryz.ntmps10 rfl h
noncomputable def Abp(code:Int)(at0:Int)(wrong:Bool)(c3:Addr)(R:Value→World→Prop)(w:World):Prop:=
 dw (fun w=>
 ∃ S1:World→Prop,S1 w∧
 br (wrong)
 (QG S1 c3 fun(i2:Int)=>
 br (i2==(0:Int))
 (S1 w∧
 ZO c3 ⟨code,at0⟩ (fun w=>
 R (.tuple #[]) w) w)
 (QG S1 (c3.add 1) fun(i3:Int)=>
 QG S1 c3 fun(i4:Int)=>
 OL at0 i3 (fun(i5:Int) w=>
 S1 w∧
 OL code i4 (fun(i6:Int) w=>
 bx (.cells #[.int .i64 i5,.int .i64 i6] 3) (fun a7 w=>
 AbP ⟨some a7,2,2⟩ (fun(i8:Int) w=>
 br (decide (i8<(0:Int)))
 (ZO c3 ⟨code,at0⟩ (fun w=>
 R (.tuple #[]) w) w)
 (R (.tuple #[]) w)) w) w) w) w))
 (S1 w∧
 R (.tuple #[]) w)) w
theorem Ae2(code:Int)(at0:Int)(wrong:Bool)(c3:Addr)(K:Unit→World→Prop)(w:World)(h:Abp code at0 wrong c3 (Rt (QK) K) w):NG code at0 wrong c3 K w:=
  fnc (A:=[]) (by kernel_rfl) Tryz.func18 Tryz.ntmps18 rfl h
noncomputable def VE(R:Value→World→Prop)(t125:Option Addr)(r126:Addr)(a127:Addr)(x128:Bool)(w:World):Prop:=
 br (x128)
 (JF r126 (fun(x129:JA) w=>
 DK t125 x129 (fun(x130:Unit) w=>
 JZ (r126.add 5) (fun(l131:Sl) w=>
 YF a127 (fun(x132:JB) w=>
 ZU t125 l131 x132 (fun(x133:Unit) w=>
 R (.tuple #[]) w) w) w) w) w) w)
 (JZ (r126.add 5) (fun(l134:Sl) w=>
 YF a127 (fun(x135:JB) w=>
 ZU t125 l134 x135 (fun(x136:Unit) w=>
 R (.tuple #[]) w) w) w) w)
noncomputable def DB(R:Value→World→Prop)(t108:Option Addr)(r109:Addr)(a110:Addr)(x111:Int)(x112:Bool)(w:World):Prop:=
 br (x112)
 (JF r109 (fun(x113:JA) w=>
 YF a110 (fun(x114:JB) w=>
 FA t108 x113 x114 (fun(x115:Unit) w=>
 R (.tuple #[]) w) w) w) w)
 (br (x111==(51:Int))
 (JF r109 (fun(x116:JA) w=>
 DK t108 x116 (fun(x117:Unit) w=>
 JZ (r109.add 5) (fun(l118:Sl) w=>
 GV l118 (fun(l119:Sl) w=>
 XM l119 ⟨51,#[]⟩ (fun(l120:Sl) w=>
 GN t108 l120 (fun(x121:Unit) w=>
 JZ (r109.add 5) (fun(l122:Sl) w=>
 YF a110 (fun(x123:JB) w=>
 ZU t108 l122 x123 (fun(x124:Unit) w=>
 R (.tuple #[]) w) w) w) w) w) w) w) w) w) w)
 (br (x111==(35:Int))
 (VE R t108 r109 a110 (x111==(35:Int)) w)
 (br (x111==(36:Int))
 (VE R t108 r109 a110 (x111==(36:Int)) w)
 (br (x111==(37:Int))
 (VE R t108 r109 a110 (x111==(37:Int)) w)
 (VE R t108 r109 a110 (x111==(38:Int)) w)))))
noncomputable def UN(R:Value→World→Prop)(t77:Option Addr)(r78:Addr)(a79:Addr)(y80:Option Addr)(x81:Int)(x82:Bool)(w:World):Prop:=
 br (x82)
 (JF r78 (fun(x83:JA) w=>
 YF a79 (fun(x84:JB) w=>
 OZ t77 x83 x84 (fun(x85:Unit) w=>
 R (.tuple #[]) w) w) w) w)
 (br (x81==(18:Int))
 (JF r78 (fun(x86:JA) w=>
 YF a79 (fun(x87:JB) w=>
 KA t77 x86 x87 (fun(x88:Unit) w=>
 R (.tuple #[]) w) w) w) w)
 (br (x81==(20:Int))
 (QO (r78.add 2) (fun(s89:ByteArray) w=>
 JK (r78.add 1) (fun(i90:Int) w=>
 YU y80 s89 i90 true (fun(x91:Unit) w=>
 JF r78 (fun(x92:JA) w=>
 JK a79 (fun(i93:Int) w=>
 US t77 3 x92 i93 (fun(x94:JB) w=>
 bx (.cells #[.int .i64 0,.bool false,.bool false] 63) (fun a95 w=>
 IP a95 x94 (fun w=>
 dw (fun w=>
 ∃ S96:World→Prop,S96 w∧
 QM S96 (r78.add 5) fun(l97:Sl)=>
 nn l97.a fun a98=>
 0≤(0:Int)∧(0:Int)<((l97.n:Nat):Int)∧
 QB S96 a98 fun(x99:JA)=>
 ZD S96 a79 fun(x100:JB)=>
 ZF t77 x99 x100 (fun(x101:Unit) w=>
 dw (fun w=>
 ∃ S102:World→Prop,S102 w∧
 QM S102 (r78.add 5) fun(l103:Sl)=>
 nn l103.a fun a104=>
 0≤(1:Int)∧(1:Int)<((l103.n:Nat):Int)∧
 QB S102 (a104.add 6) fun(x105:JA)=>
 ZD S102 a95 fun(x106:JB)=>
 ZF t77 x105 x106 (fun(x107:Unit) w=>
 R (.tuple #[]) w) w) w) w) w) w) w) w) w) w) w) w) w)
 (br (x81==(41:Int))
 (DB R t77 r78 a79 x81 (x81==(41:Int)) w)
 (br (x81==(42:Int))
 (DB R t77 r78 a79 x81 (x81==(42:Int)) w)
 (DB R t77 r78 a79 x81 (x81==(43:Int)) w)))))
noncomputable def AR(R:Value→World→Prop)(t68:Option Addr)(r69:Addr)(a70:Addr)(y71:Option Addr)(x72:Int)(x73:Bool)(w:World):Prop:=
 br (x73)
 (JF r69 (fun(x74:JA) w=>
 YF a70 (fun(x75:JB) w=>
 BC t68 x74 x75 (fun(x76:Unit) w=>
 R (.tuple #[]) w) w) w) w)
 (br (x72==(17:Int))
 (UN R t68 r69 a70 y71 x72 (x72==(17:Int)) w)
 (br (x72==(16:Int))
 (UN R t68 r69 a70 y71 x72 (x72==(16:Int)) w)
 (br (x72==(21:Int))
 (UN R t68 r69 a70 y71 x72 (x72==(21:Int)) w)
 (UN R t68 r69 a70 y71 x72 (x72==(22:Int)) w))))
noncomputable def AQ(R:Value→World→Prop)(t30:Option Addr)(r31:Addr)(a32:Addr)(y33:Option Addr)(x34:Int)(x35:Bool)(w:World):Prop:=
 br (x35)
 (dw (fun w=>
 ∃ S36:World→Prop,S36 w∧
 nn t30 fun a37=>
 NX S36 (a37.add 1) fun(x38:Fv)=>
 QG S36 (r31.add 1) fun(i39:Int)=>
 Aef S36 (a32.add 1) fun(b40:Bool)=>
 clv (x38.v) #[.int .i64 111,.int .i64 i39,.bool (!b40)] (QK) (fun(x41:Unit) w=>
 R (.tuple #[]) w) w) w)
 (br (x34==(11:Int))
 (dw (fun w=>
 ∃ S42:World→Prop,S42 w∧
 nn t30 fun a43=>
 NX S42 (a43.add 1) fun(x44:Fv)=>
 QG S42 (r31.add 1) fun(i45:Int)=>
 nn y33 fun a46=>
 QG S42 a46 fun(i47:Int)=>
 clv (x44.v) #[.int .i64 112,.int .i64 i45,.bool (i47 != (2:Int))] (QK) (fun(x48:Unit) w=>
 JZ (r31.add 5) (fun(l49:Sl) w=>
 YF a32 (fun(x50:JB) w=>
 ZU t30 l49 x50 (fun(x51:Unit) w=>
 R (.tuple #[]) w) w) w) w) w) w)
 (br (x34==(12:Int))
 (dw (fun w=>
 ∃ S52:World→Prop,S52 w∧
 nn t30 fun a53=>
 NX S52 (a53.add 1) fun(x54:Fv)=>
 QG S52 (r31.add 1) fun(i55:Int)=>
 QM S52 (r31.add 5) fun(l56:Sl)=>
 nn l56.a fun a57=>
 0≤(0:Int)∧(0:Int)<((l56.n:Nat):Int)∧
 QG S52 a57 fun(i58:Int)=>
 br (i58==(0:Int))
 (Aef S52 (a32.add 2) fun(b59:Bool)=>
 clv (x54.v) #[.int .i64 113,.int .i64 i55,.bool (!b59)] (QK) (fun(x60:Unit) w=>
 JZ (r31.add 5) (fun(l61:Sl) w=>
 YF a32 (fun(x62:JB) w=>
 ZU t30 l61 x62 (fun(x63:Unit) w=>
 R (.tuple #[]) w) w) w) w) w)
 (clv (x54.v) #[.int .i64 113,.int .i64 i55,.bool false] (QK) (fun(x64:Unit) w=>
 JZ (r31.add 5) (fun(l65:Sl) w=>
 YF a32 (fun(x66:JB) w=>
 ZU t30 l65 x66 (fun(x67:Unit) w=>
 R (.tuple #[]) w) w) w) w) w)) w)
 (br (x34==(13:Int))
 (AR R t30 r31 a32 y33 x34 (x34==(13:Int)) w)
 (AR R t30 r31 a32 y33 x34 (x34==(14:Int)) w))))
noncomputable def UM(R:Value→World→Prop)(t13:Option Addr)(r14:Addr)(a15:Addr)(y16:Option Addr)(x17:Int)(x18:Bool)(w:World):Prop:=
 br (x18)
 (dw (fun w=>
 ∃ S19:World→Prop,S19 w∧
 QM S19 (r14.add 5) fun(l20:Sl)=>
 nn l20.a fun a21=>
 0≤(0:Int)∧(0:Int)<((l20.n:Nat):Int)∧
 QB S19 a21 fun(x22:JA)=>
 ZD S19 a15 fun(x23:JB)=>
 XO t13 x22 x23 (fun(x24:Unit) w=>
 dw (fun w=>
 ∃ S25:World→Prop,S25 w∧
 QM S25 (r14.add 5) fun(l26:Sl)=>
 rnS S25 (Instr.sliceAt 25 (l26.v) (some (.int .i64 1)) none none) (hSl) fun(l27:Sl)=>
 ZD S25 a15 fun(x28:JB)=>
 ZU t13 l27 x28 (fun(x29:Unit) w=>
 R (.tuple #[]) w) w) w) w) w)
 (br (x17==(9:Int))
 (AQ R t13 r14 a15 y16 x17 (x17==(9:Int)) w)
 (AQ R t13 r14 a15 y16 x17 (x17==(10:Int)) w))
noncomputable def RS(t0:Option Addr)(o0:JA)(A:JB)(R:Value→World→Prop)(w:World):Prop:=
 bx (.cells o0.cells 27) (fun r1 w=>
 bx (.cells A.cells 63) (fun a2 w=>
 dw (fun w=>
 ∃ S3:World→Prop,S3 w∧
 nn t0 fun a4=>
 VU S3 a4 fun(l5:Sl)=>
 QG S3 a2 fun(i6:Int)=>
 nn l5.a fun a7=>
 0≤i6∧i6<((l5.n:Nat):Int)∧
 UQ S3 (a7.add (i6.toNat * 1)) fun(p8:Option Addr)=>
 JK r1 (fun(i9:Int) w=>
 br (i9==(31:Int))
 (QO (r1.add 2) (fun(s10:ByteArray) w=>
 JK (r1.add 1) (fun(i11:Int) w=>
 YU p8 s10 i11 false (fun(x12:Unit) w=>
 R (.tuple #[]) w) w) w) w)
 (br (i9==(4:Int))
 (UM R t0 r1 a2 p8 i9 (i9==(4:Int)) w)
 (br (i9==(5:Int))
 (UM R t0 r1 a2 p8 i9 (i9==(5:Int)) w)
 (br (i9==(6:Int))
 (UM R t0 r1 a2 p8 i9 (i9==(6:Int)) w)
 (UM R t0 r1 a2 p8 i9 (i9==(7:Int)) w))))) w) w) w) w
theorem Acb(t0:Option Addr)(o0:JA)(A:JB)(K:Unit→World→Prop)(w:World)(h:RS t0 o0 A (Rt (QK) K) w):ZF t0 o0 A K w:=
  fnc (A:=[]) (by kernel_rfl) Tryz.func21 Tryz.ntmps21 rfl h
noncomputable def RT(w0:Option Addr)(kind:Int)(n0:JA)(around:Int)(R:Value→World→Prop)(w:World):Prop:=
 bx (.cells n0.cells 27) (fun n1 w=>
 bx (.cells #[.int .i64 0,.bool false,.bool false] 63) (fun a2 w=>
 dw (fun w=>
 ∃ S3:World→Prop,S3 w∧
 nn w0 fun a4=>
 VU S3 a4 fun(l5:Sl)=>
 QG S3 (n1.add 1) fun(i6:Int)=>
 rn (Instr.makeMap 93 none) (Ae7) (fun(m7:Option Nat) w=>
 S3 w∧
 bx (.cells #[.int .i64 kind,.int .i64 i6,.int .i64 around,.map m7,.slice none 0 0,.int .i64 0] 95) (fun a8 w=>
 S3 w∧
 bx (.cells #[.pointer (some a8)] 65) (fun a9 w=>
 S3 w∧
 rn (Builtin.append_ #[57,57] 57 #[l5.v,.slice (some a9) 1 1]) (hSl) (fun(l10:Sl) w=>
 S3 w∧
 nn w0 fun a11=>
 AbL a11 l10 (fun w=>
 nn w0 fun a12=>
 QN a12 (fun(l13:Sl) w=>
 IP a2 ⟨IntKind.i64.wrap ((l13.n:Int) - 1),false,false⟩ (fun w=>
 Aek a2 (fun r14=>
 R (r14.v) w) w) w) w) w) w) w) w) w) w) w) w
theorem Acd(w0:Option Addr)(kind:Int)(n0:JA)(around:Int)(K:JB→World→Prop)(w:World)(h:RT w0 kind n0 around (Rt (DD) K) w):US w0 kind n0 around K w:=
  fnc (A:=[]) (by kernel_rfl) Tryz.func22 Tryz.ntmps22 rfl h
noncomputable def RU(t0:Option Addr)(R:Value→World→Prop)(w:World):Prop:=
 nn t0 fun a1=>
 QN a1 (fun(l2:Sl) w=>
 Lp (α:=Int) (fun x3=>[.int .i64 x3]) [.int .i64 0] (fun x3 again4 w=>
 br (decide (x3<(l2.n:Int)))
 (nn l2.a fun a5=>
 0≤x3∧x3<((l2.n:Nat):Int)∧
 ZA (a5.add (x3.toNat * 1)) (fun(p6:Option Addr) w=>
 nn p6 fun a7=>
 ZL (a7.add 3) (fun(m8:Option Nat) w=>
 QX m8 (fun(x9:Fv) w=>
 GW x9 (fun(l10:Sl) w=>
 Lp (α:=Int) (fun x11=>[.int .i64 x11]) [.int .i64 0] (fun x11 again12 w=>
 br (decide (x11<(l10.n:Int)))
 (nn l10.a fun a13=>
 0≤x11∧x11<((l10.n:Nat):Int)∧
 QO (a13.add (x11.toNat * 1)) (fun(s14:ByteArray) w=>
 dw (fun w=>
 ∃ S15:World→Prop,S15 w∧
 nn p6 fun a16=>
 IK S15 (a16.add 3) fun(m17:Option Nat)=>
 IM S15 m17 s14 fun(p18:Option Addr)=>
 nn p18 fun a19=>
 Acq S15 (a19.add 5) fun(m20:Option Nat)=>
 IC t0 x3 s14 (fun(i21:Int) w=>
 S15 w∧
 IW m20 i21 0 (fun w=>
 again12 [.int .i64 (IntKind.i64.wrap (x11+1))] w) w) w) w) w)
 (again4 [.int .i64 (IntKind.i64.wrap (x3+1))] w)) w) w) w) w) w)
 (nn t0 fun a22=>
 QN a22 (fun(l23:Sl) w=>
 Lp (α:=Int) (fun y24=>[.int .i64 y24]) [.int .i64 (IntKind.i64.wrap ((l23.n:Int) - 1))] (fun y24 again25 w=>
 br (decide (y24≥(0:Int)))
 (nn t0 fun a26=>
 QN a26 (fun(l27:Sl) w=>
 nn l27.a fun a28=>
 0≤y24∧y24<((l27.n:Nat):Int)∧
 ZA (a28.add (y24.toNat * 1)) (fun(p29:Option Addr) w=>
 nn p29 fun a30=>
 ZL (a30.add 3) (fun(m31:Option Nat) w=>
 QX m31 (fun(x32:Fv) w=>
 GW x32 (fun(l33:Sl) w=>
 Lp (α:=Int) (fun x34=>[.int .i64 x34]) [.int .i64 0] (fun x34 again35 w=>
 br (decide (x34<(l33.n:Int)))
 (nn l33.a fun a36=>
 0≤x34∧x34<((l33.n:Nat):Int)∧
 QO (a36.add (x34.toNat * 1)) (fun(s37:ByteArray) w=>
 nn t0 fun a38=>
 QN a38 (fun(l39:Sl) w=>
 nn l39.a fun a40=>
 0≤y24∧y24<((l39.n:Nat):Int)∧
 ZA (a40.add (y24.toNat * 1)) (fun(p41:Option Addr) w=>
 nn p41 fun a42=>
 ZL (a42.add 3) (fun(m43:Option Nat) w=>
 YT m43 s37 (fun(p44:Option Addr) w=>
 nn p44 fun a45=>
 ML (a45.add 5) (fun(m46:Option Nat) w=>
 Aa0 m46 3 (fun(x47:UT) w=>
 br (!x47.x1)
 (again35 [.int .i64 (IntKind.i64.wrap (x34+1))] w)
 (DJ t0 y24 s37 (fun(i48:Int) w=>
 nn t0 fun a49=>
 QN a49 (fun(l50:Sl) w=>
 nn l50.a fun a51=>
 0≤y24∧y24<((l50.n:Nat):Int)∧
 ZA (a51.add (y24.toNat * 1)) (fun(p52:Option Addr) w=>
 nn p52 fun a53=>
 JK (a53.add 2) (fun(i54:Int) w=>
 Lp (α:=Int) (fun x55=>[.int .i64 x55]) [.int .i64 i54] (fun x55 again56 w=>
 br (decide (x55 > i48))
 (nn t0 fun a57=>
 QN a57 (fun(l58:Sl) w=>
 nn l58.a fun a59=>
 0≤x55∧x55<((l58.n:Nat):Int)∧
 ZA (a59.add (x55.toNat * 1)) (fun(p60:Option Addr) w=>
 UK p60 s37 (fun(p61:Option Addr) w=>
 nn p61 fun a62=>
 ML (a62.add 5) (fun(m63:Option Nat) w=>
 IW m63 3 0 (fun w=>
 nn t0 fun a64=>
 QN a64 (fun(l65:Sl) w=>
 nn l65.a fun a66=>
 0≤x55∧x55<((l65.n:Nat):Int)∧
 ZA (a66.add (x55.toNat * 1)) (fun(p67:Option Addr) w=>
 nn p67 fun a68=>
 JK (a68.add 2) (fun(i69:Int) w=>
 again56 [.int .i64 i69] w) w) w) w) w) w) w) w) w)
 (nn t0 fun a70=>
 QN a70 (fun(l71:Sl) w=>
 nn l71.a fun a72=>
 0≤i48∧i48<((l71.n:Nat):Int)∧
 ZA (a72.add (i48.toNat * 1)) (fun(p73:Option Addr) w=>
 nn p73 fun a74=>
 ZL (a74.add 3) (fun(m75:Option Nat) w=>
 YT m75 s37 (fun(p76:Option Addr) w=>
 nn p76 fun a77=>
 ML (a77.add 5) (fun(m78:Option Nat) w=>
 rn (Builtin.delete_ #[105,3] 0 #[.map m78,.int .i64 1]) (QK) (fun(x79:Unit) w=>
 nn p76 fun a80=>
 ML (a80.add 5) (fun(m81:Option Nat) w=>
 IW m81 2 0 (fun w=>
 again35 [.int .i64 (IntKind.i64.wrap (x34+1))] w) w) w) w) w) w) w) w) w)) w) w) w) w) w)) w) w) w) w) w) w) w)
 (again25 [.int .i64 (IntKind.i64.wrap (y24 - 1))] w)) w) w) w) w) w) w)
 (R (.tuple #[]) w)) w) w)) w) w
theorem Ace(t0:Option Addr)(K:Unit→World→Prop)(w:World)(h:RU t0 (Rt (QK) K) w):FB t0 K w:=
  fnc (A:=[(1,[(19,QC .i64)]),(4,[(31,QC .i64)]),(10,[(6,QC .i64)]),(13,[(73,QC .i64)]),(19,[(12,QC .i64)])]) (by kernel_rfl) Tryz.func23 Tryz.ntmps23 rfl h
noncomputable def ET(R:Value→World→Prop)(t38:Option Addr)(A39:Addr)(r40:Addr)(w:World):Prop:=
 dw (fun w=>
 ∃ S41:World→Prop,S41 w∧
 QG S41 (r40.add 5) fun(i42:Int)=>
 AY (r40.add 3) (fun(l43:Sl) w=>
 Lp (α:=Int×Int×Int) (fun x44=>[.int .i64 x44.1,.int .i64 x44.2.1,.int .i64 x44.2.2]) [.int .i64 0,.int .i64 i42,.int .i64 0] (fun x44 again45 w=>
 br (decide (x44.2.2<(l43.n:Int)))
 (AY (r40.add 3) (fun(l46:Sl) w=>
 nn l46.a fun a47=>
 0≤x44.2.2∧x44.2.2<((l46.n:Nat):Int)∧
 JK ((a47.add (x44.2.2.toNat * 3)).add 1) (fun(i48:Int) w=>
 br (i48==(2:Int))
 (YX ((a47.add (x44.2.2.toNat * 3)).add 2) x44.1 (fun w=>
 again45 [.int .i64 (IntKind.i64.wrap (x44.1+1)),.int .i64 x44.2.1,.int .i64 (IntKind.i64.wrap (x44.2.2+1))] w) w)
 (br (i48==(3:Int))
 (YX ((a47.add (x44.2.2.toNat * 3)).add 2) x44.2.1 (fun w=>
 again45 [.int .i64 x44.1,.int .i64 (IntKind.i64.wrap (x44.2.1+1)),.int .i64 (IntKind.i64.wrap (x44.2.2+1))] w) w)
 (br (i48==(1:Int))
 (dw (fun w=>
 ∃ S49:World→Prop,S49 w∧
 nn t38 fun a50=>
 AaB S49 (a50.add 4) fun(l51:Sl)=>
 YY S49 (a47.add (x44.2.2.toNat * 3)) fun(s52:ByteArray)=>
 GD l51 s52 (fun(i53:Int) w=>
 S49 w∧
 YX ((a47.add (x44.2.2.toNat * 3)).add 2) i53 (fun w=>
 JK ((a47.add (x44.2.2.toNat * 3)).add 2) (fun(i54:Int) w=>
 br (decide (i54<(0:Int)))
 (JK (r40.add 4) (fun(i55:Int) w=>
 YX ((a47.add (x44.2.2.toNat * 3)).add 2) i55 (fun w=>
 JK (r40.add 4) (fun(i56:Int) w=>
 YX (r40.add 4) (IntKind.i64.wrap (i56+1)) (fun w=>
 again45 [.int .i64 x44.1,.int .i64 x44.2.1,.int .i64 (IntKind.i64.wrap (x44.2.2+1))] w) w) w) w) w)
 (again45 [.int .i64 x44.1,.int .i64 x44.2.1,.int .i64 (IntKind.i64.wrap (x44.2.2+1))] w)) w) w) w) w)
 (again45 [.int .i64 x44.1,.int .i64 x44.2.1,.int .i64 (IntKind.i64.wrap (x44.2.2+1))] w)))) w) w)
 (dw (fun w=>
 ∃ S57:World→Prop,S57 w∧
 QG S57 (r40.add 4) fun(i58:Int)=>
 nn t38 fun a59=>
 QG S57 (a59.add 5) fun(i60:Int)=>
 YX (r40.add 4) (IntKind.i64.wrap (i58+i60)) (fun w=>
 SR r40 (fun(x61:JL) w=>
 LU A39 x61 (fun w=>
 Acv A39 (fun r62=>
 R (r62.v) w) w) w) w) w) w)) w) w) w
noncomputable def TV(t0:Option Addr)(R:Value→World→Prop)(w:World):Prop:=
 bx (.cells #[.int .i64 0,.int .i64 0,.int .i64 0,.slice none 0 0,.int .i64 0,.int .i64 0,.int .i64 0] 38) (fun A1 w=>
 dw (fun w=>
 ∃ S2:World→Prop,S2 w∧
 nn t0 fun a3=>
 QG S2 a3 fun(i4:Int)=>
 nn t0 fun a5=>
 QG S2 (a5.add 1) fun(i6:Int)=>
 nn t0 fun a7=>
 QG S2 (a7.add 2) fun(i8:Int)=>
 bx (.cells #[.int .i64 0,.int .i64 0,.int .i64 0,.slice none 0 0,.int .i64 0,.int .i64 0,.int .i64 0] 38) (fun r9 w=>
 S2 w∧
 LU r9 ⟨i4,i6,i8,⟨none,0,0⟩,0,0,0⟩ (fun w=>
 nn t0 fun a10=>
 ZL (a10.add 3) (fun(m11:Option Nat) w=>
 QX m11 (fun(x12:Fv) w=>
 GW x12 (fun(l13:Sl) w=>
 Lp (α:=Int) (fun x14=>[.int .i64 x14]) [.int .i64 0] (fun x14 again15 w=>
 br (decide (x14<(l13.n:Int)))
 (nn l13.a fun a16=>
 0≤x14∧x14<((l13.n:Nat):Int)∧
 QO (a16.add (x14.toNat * 1)) (fun(s17:ByteArray) w=>
 nn t0 fun a18=>
 ZL (a18.add 3) (fun(m19:Option Nat) w=>
 YT m19 s17 (fun(p20:Option Addr) w=>
 nn p20 fun a21=>
 ML (a21.add 5) (fun(m22:Option Nat) w=>
 DM m22 (fun(x23:Fv) w=>
 RC x23 (fun(l24:Sl) w=>
 Lp (α:=Int) (fun x25=>[.int .i64 x25]) [.int .i64 0] (fun x25 again26 w=>
 br (decide (x25<(l24.n:Int)))
 (nn l24.a fun a27=>
 0≤x25∧x25<((l24.n:Nat):Int)∧
 JK (a27.add (x25.toNat * 1)) (fun(i28:Int) w=>
 AY (r9.add 3) (fun(l29:Sl) w=>
 bx (.cells #[.string s17,.int .i64 i28,.int .i64 0] 40) (fun a30 w=>
 rn (Builtin.append_ #[36,36] 36 #[l29.v,.slice (some a30) 1 1]) (hSl) (fun(l31:Sl) w=>
 AiT (r9.add 3) l31 (fun w=>
 br (i28==(2:Int))
 (JK (r9.add 5) (fun(i32:Int) w=>
 YX (r9.add 5) (IntKind.i64.wrap (i32+1)) (fun w=>
 again26 [.int .i64 (IntKind.i64.wrap (x25+1))] w) w) w)
 (br (i28==(3:Int))
 (JK (r9.add 6) (fun(i33:Int) w=>
 YX (r9.add 6) (IntKind.i64.wrap (i33+1)) (fun w=>
 again26 [.int .i64 (IntKind.i64.wrap (x25+1))] w) w) w)
 (again26 [.int .i64 (IntKind.i64.wrap (x25+1))] w))) w) w) w) w) w)
 (again15 [.int .i64 (IntKind.i64.wrap (x14+1))] w)) w) w) w) w) w) w) w)
 (nn t0 fun a34=>
 Af9 (a34.add 4) (fun(l35:Sl) w=>
 YX (r9.add 4) (l35.n:Int) (fun w=>
 nn t0 fun a36=>
 JK a36 (fun(i37:Int) w=>
 br (i37==(4:Int))
 (YX (r9.add 4) 1 (fun w=>
 ET R t0 A1 r9 w) w)
 (ET R t0 A1 r9 w)) w) w) w)) w) w) w) w) w) w) w) w
theorem Adj(t0:Option Addr)(K:JL→World→Prop)(w:World)(h:TV t0 (Rt (DC) K) w):BB t0 K w:=
  fnc (A:=[(4,[(34,QC .i64)]),(7,[(50,QC .i64)]),(22,[(9,QC .i64),(10,QC .i64),(94,QC .i64)])]) (by kernel_rfl) Tryz.func24 Tryz.ntmps24 rfl h
noncomputable def XT(R:Value→World→Prop)(bound5:Bool)(n6:Option Addr)(w:World):Prop:=
 nn n6 fun a7=>
 OR (a7.add 2) (fun(b8:Bool) w=>
 br (b8)
 (nn n6 fun a9=>
 HN a9 true (fun w=>
 nn n6 fun a10=>
 HN (a10.add 2) true (fun w=>
 R (.tuple #[]) w) w) w)
 (nn n6 fun a11=>
 HN a11 true (fun w=>
 nn n6 fun a12=>
 HN (a12.add 2) bound5 (fun w=>
 R (.tuple #[]) w) w) w)) w
noncomputable def PH(s0:Option Addr)(text:ByteArray)(at0:Int)(bound:Bool)(R:Value→World→Prop)(w:World):Prop:=
 UK s0 text (fun(p1:Option Addr) w=>
 nn p1 fun a2=>
 OR a2 (fun(b3:Bool) w=>
 br (!b3)
 (nn p1 fun a4=>
 YX (a4.add 1) at0 (fun w=>
 XT R bound p1 w) w)
 (nn p1 fun a13=>
 JK (a13.add 1) (fun(i14:Int) w=>
 br (decide (at0<i14))
 (nn p1 fun a15=>
 YX (a15.add 1) at0 (fun w=>
 XT R bound p1 w) w)
 (XT R bound p1 w)) w)) w) w
theorem Abg(s0:Option Addr)(text:ByteArray)(at0:Int)(bound:Bool)(K:Unit→World→Prop)(w:World)(h:PH s0 text at0 bound (Rt (QK) K) w):YU s0 text at0 bound K w:=
  fnc (A:=[]) (by kernel_rfl) Tryz.func40 Tryz.ntmps40 rfl h
noncomputable def ND(w0:Option Addr)(n0:JA)(p0:JB)(R:Value→World→Prop)(w:World):Prop:=
 bx (.cells n0.cells 27) (fun n1 w=>
 bx (.cells p0.cells 63) (fun p2 w=>
 JK n1 (fun(i3:Int) w=>
 br (i3==(31:Int))
 (dw (fun w=>
 ∃ S4:World→Prop,S4 w∧
 nn w0 fun a5=>
 VU S4 a5 fun(l6:Sl)=>
 QG S4 p2 fun(i7:Int)=>
 nn l6.a fun a8=>
 0≤i7∧i7<((l6.n:Nat):Int)∧
 UQ S4 (a8.add (i7.toNat * 1)) fun(p9:Option Addr)=>
 YY S4 (n1.add 2) fun(s10:ByteArray)=>
 QG S4 (n1.add 1) fun(i11:Int)=>
 YU p9 s10 i11 true (fun(x12:Unit) w=>
 R (.tuple #[]) w) w) w)
 (br (i3==(23:Int))
 (JF n1 (fun(x13:JA) w=>
 DK w0 x13 (fun(x14:Unit) w=>
 JZ (n1.add 5) (fun(l15:Sl) w=>
 Lp (α:=Int) (fun x16=>[.int .i64 x16]) [.int .i64 0] (fun x16 again17 w=>
 br (decide (x16<(l15.n:Int)))
 (nn l15.a fun a18=>
 0≤x16∧x16<((l15.n:Nat):Int)∧
 JF (a18.add (x16.toNat * 6)) (fun(x19:JA) w=>
 bx (.cells #[.int .i64 0,.int .i64 0,.string (⟨#[]⟩:ByteArray),.bool false,.slice none 0 0,.slice none 0 0] 27) (fun k20 w=>
 JC k20 x19 (fun w=>
 JF k20 (fun(x21:JA) w=>
 YF p2 (fun(x22:JB) w=>
 XO w0 x21 x22 (fun(x23:Unit) w=>
 again17 [.int .i64 (IntKind.i64.wrap (x16+1))] w) w) w) w) w) w) w)
 (R (.tuple #[]) w)) w) w) w) w)
 (JF n1 (fun(x24:JA) w=>
 YF p2 (fun(x25:JB) w=>
 ZF w0 x24 x25 (fun(x26:Unit) w=>
 R (.tuple #[]) w) w) w) w))) w) w) w
theorem AaR(w0:Option Addr)(n0:JA)(p0:JB)(K:Unit→World→Prop)(w:World)(h:ND w0 n0 p0 (Rt (QK) K) w):XO w0 n0 p0 K w:=
  fnc (A:=[(8,[(37,QC .i64)])]) (by kernel_rfl) Tryz.func41 Tryz.ntmps41 rfl h
noncomputable def TW(w0:Option Addr)(l0:Sl)(p0:JB)(R:Value→World→Prop)(w:World):Prop:=
 bx (.cells p0.cells 63) (fun p1 w=>
 Lp (α:=Int) (fun x2=>[.int .i64 x2]) [.int .i64 0] (fun x2 again3 w=>
 br (decide (x2<(l0.n:Int)))
 (nn l0.a fun a4=>
 0≤x2∧x2<((l0.n:Nat):Int)∧
 JF (a4.add (x2.toNat * 6)) (fun(x5:JA) w=>
 bx (.cells #[.int .i64 0,.int .i64 0,.string (⟨#[]⟩:ByteArray),.bool false,.slice none 0 0,.slice none 0 0] 27) (fun n6 w=>
 JC n6 x5 (fun w=>
 JF n6 (fun(x7:JA) w=>
 YF p1 (fun(x8:JB) w=>
 ZF w0 x7 x8 (fun(x9:Unit) w=>
 again3 [.int .i64 (IntKind.i64.wrap (x2+1))] w) w) w) w) w) w) w)
 (R (.tuple #[]) w)) w) w
theorem Adk(w0:Option Addr)(l0:Sl)(p0:JB)(K:Unit→World→Prop)(w:World)(h:TW w0 l0 p0 (Rt (QK) K) w):ZU w0 l0 p0 K w:=
  fnc (A:=[(2,[(10,QC .i64)])]) (by kernel_rfl) Tryz.func42 Tryz.ntmps42 rfl h
noncomputable def DP(again14:List Value→World→Prop)(r35:Addr)(r36:Addr)(a37:Addr)(y38:Addr)(x39:Addr)(x40:Addr)(x43:Int)(w:World):Prop:=
 Aeh x40 (fun(p44:Option Addr) w=>
 JK r36 (fun(i45:Int) w=>
 nn p44 fun a46=>
 YX (a46.add 4) i45 (fun w=>
 dw (fun w=>
 ∃ S47:World→Prop,S47 w∧
 UY S47 r35 fun(p48:Option Addr)=>
 UY S47 r35 fun(p49:Option Addr)=>
 nn p49 fun a50=>
 ApD S47 (a50.add 2) fun(l51:Sl)=>
 bx (.cells #[.func (.func 87) #[] #[.pointer (some r35),.pointer (some x39),.pointer (some x40),.pointer (some r36),.pointer (some y38),.pointer (some a37)]] 1) (fun a52 w=>
 S47 w∧
 rn (Builtin.append_ #[58,58] 58 #[l51.v,.slice (some a52) 1 1]) (hSl) (fun(l53:Sl) w=>
 S47 w∧
 nn p48 fun a54=>
 Ane (a54.add 2) l53 (fun w=>
 again14 [.int .i64 (IntKind.i64.wrap (x43+1))] w) w) w) w) w) w) w) w
noncomputable def LC(t0:Option Addr)(o0:JA)(A:JB)(R:Value→World→Prop)(w:World):Prop:=
 bx (.cells #[.pointer t0] 53) (fun r1 w=>
 bx (.cells o0.cells 27) (fun r2 w=>
 bx (.cells A.cells 63) (fun a3 w=>
 dw (fun w=>
 ∃ S4:World→Prop,S4 w∧
 UY S4 r1 fun(p5:Option Addr)=>
 nn p5 fun a6=>
 VU S4 a6 fun(l7:Sl)=>
 QG S4 a3 fun(i8:Int)=>
 nn l7.a fun a9=>
 0≤i8∧i8<((l7.n:Nat):Int)∧
 UQ S4 (a9.add (i8.toNat * 1)) fun(p10:Option Addr)=>
 bx (.cells #[.pointer none] 65) (fun y11 w=>
 S4 w∧
 Ac2 y11 p10 (fun w=>
 JZ (r2.add 5) (fun(l12:Sl) w=>
 Lp (α:=Int) (fun x13=>[.int .i64 x13]) [.int .i64 0] (fun x13 again14 w=>
 br (decide (x13<(l12.n:Int)))
 (nn l12.a fun a15=>
 0≤x13∧x13<((l12.n:Nat):Int)∧
 JF (a15.add (x13.toNat * 6)) (fun(x16:JA) w=>
 bx (.cells #[.int .i64 0,.int .i64 0,.string (⟨#[]⟩:ByteArray),.bool false,.slice none 0 0,.slice none 0 0] 27) (fun a17 w=>
 JC a17 x16 (fun w=>
 ZA y11 (fun(p18:Option Addr) w=>
 QO (a17.add 2) (fun(s19:ByteArray) w=>
 UK p18 s19 (fun(p20:Option Addr) w=>
 bx (.cells #[.pointer none] 104) (fun a21 w=>
 AeC a21 p20 (fun w=>
 dw (fun w=>
 ∃ S22:World→Prop,S22 w∧
 UY S22 r1 fun(p23:Option Addr)=>
 nn p23 fun a24=>
 NX S22 (a24.add 1) fun(x25:Fv)=>
 QG S22 (a17.add 1) fun(i26:Int)=>
 AC S22 a21 fun(p27:Option Addr)=>
 nn p27 fun a28=>
 QG S22 (a28.add 4) fun(i29:Int)=>
 br (i29 != (0:Int))
 (AC S22 a21 fun(p30:Option Addr)=>
 nn p30 fun a31=>
 QG S22 (a31.add 4) fun(i32:Int)=>
 QG S22 r2 fun(i33:Int)=>
 clv (x25.v) #[.int .i64 114,.int .i64 i26,.bool (i32 != i33)] (QK) (fun(x34:Unit) w=>
 DP again14 r1 r2 a3 y11 a17 a21 x13 w) w)
 (clv (x25.v) #[.int .i64 114,.int .i64 i26,.bool false] (QK) (fun(x55:Unit) w=>
 DP again14 r1 r2 a3 y11 a17 a21 x13 w) w)) w) w) w) w) w) w) w) w) w)
 (R (.tuple #[]) w)) w) w) w) w) w) w) w) w
theorem Aag(t0:Option Addr)(o0:JA)(A:JB)(K:Unit→World→Prop)(w:World)(h:LC t0 o0 A (Rt (QK) K) w):BC t0 o0 A K w:=
  fnc (A:=[(3,[(21,QC .i64)])]) (by kernel_rfl) Tryz.func43 Tryz.ntmps43 rfl h
noncomputable def MS(R:Value→World→Prop)(t58:Option Addr)(r59:Addr)(a60:Addr)(y61:Addr)(w:World):Prop:=
 dw (fun w=>
 ∃ S62:World→Prop,S62 w∧
 QM S62 (r59.add 5) fun(l63:Sl)=>
 nn l63.a fun a64=>
 0≤(0:Int)∧(0:Int)<((l63.n:Nat):Int)∧
 QB S62 a64 fun(x65:JA)=>
 ZD S62 a60 fun(x66:JB)=>
 ZF t58 x65 x66 (fun(x67:Unit) w=>
 HN (y61.add 2) true (fun w=>
 dw (fun w=>
 ∃ S68:World→Prop,S68 w∧
 QM S68 (r59.add 5) fun(l69:Sl)=>
 nn l69.a fun a70=>
 0≤(1:Int)∧(1:Int)<((l69.n:Nat):Int)∧
 QB S68 (a70.add 6) fun(x71:JA)=>
 ZD S68 y61 fun(x72:JB)=>
 ZF t58 x71 x72 (fun(x73:Unit) w=>
 R (.tuple #[]) w) w) w) w) w) w
noncomputable def PI(t0:Option Addr)(o0:JA)(A:JB)(R:Value→World→Prop)(w:World):Prop:=
 bx (.cells o0.cells 27) (fun r1 w=>
 bx (.cells A.cells 63) (fun a2 w=>
 YF a2 (fun(x3:JB) w=>
 bx (.cells #[.int .i64 0,.bool false,.bool false] 63) (fun y4 w=>
 IP y4 x3 (fun w=>
 JK r1 (fun(i5:Int) w=>
 br (i5==(17:Int))
 (dw (fun w=>
 ∃ S6:World→Prop,S6 w∧
 QM S6 (r1.add 5) fun(l7:Sl)=>
 nn l7.a fun a8=>
 0≤(0:Int)∧(0:Int)<((l7.n:Nat):Int)∧
 QB S6 a8 fun(x9:JA)=>
 ZD S6 a2 fun(x10:JB)=>
 XO t0 x9 x10 (fun(x11:Unit) w=>
 dw (fun w=>
 ∃ S12:World→Prop,S12 w∧
 QM S12 (r1.add 5) fun(l13:Sl)=>
 nn l13.a fun a14=>
 0≤(1:Int)∧(1:Int)<((l13.n:Nat):Int)∧
 QB S12 (a14.add 6) fun(x15:JA)=>
 ZD S12 a2 fun(x16:JB)=>
 ZF t0 x15 x16 (fun(x17:Unit) w=>
 HN (y4.add 1) true (fun w=>
 dw (fun w=>
 ∃ S18:World→Prop,S18 w∧
 QM S18 (r1.add 5) fun(l19:Sl)=>
 nn l19.a fun a20=>
 0≤(2:Int)∧(2:Int)<((l19.n:Nat):Int)∧
 QB S18 (a20.add 12) fun(x21:JA)=>
 ZD S18 y4 fun(x22:JB)=>
 ZF t0 x21 x22 (fun(x23:Unit) w=>
 R (.tuple #[]) w) w) w) w) w) w) w) w)
 (br (i5==(16:Int))
 (dw (fun w=>
 ∃ S24:World→Prop,S24 w∧
 QM S24 (r1.add 5) fun(l25:Sl)=>
 nn l25.a fun a26=>
 0≤(0:Int)∧(0:Int)<((l25.n:Nat):Int)∧
 QB S24 a26 fun(x27:JA)=>
 ZD S24 a2 fun(x28:JB)=>
 ZF t0 x27 x28 (fun(x29:Unit) w=>
 HN (y4.add 1) true (fun w=>
 dw (fun w=>
 ∃ S30:World→Prop,S30 w∧
 QM S30 (r1.add 5) fun(l31:Sl)=>
 nn l31.a fun a32=>
 0≤(1:Int)∧(1:Int)<((l31.n:Nat):Int)∧
 QB S30 (a32.add 6) fun(x33:JA)=>
 ZD S30 y4 fun(x34:JB)=>
 ZF t0 x33 x34 (fun(x35:Unit) w=>
 R (.tuple #[]) w) w) w) w) w) w)
 (br (i5==(21:Int))
 (dw (fun w=>
 ∃ S36:World→Prop,S36 w∧
 nn t0 fun a37=>
 VU S36 a37 fun(l38:Sl)=>
 QG S36 a2 fun(i39:Int)=>
 nn l38.a fun a40=>
 0≤i39∧i39<((l38.n:Nat):Int)∧
 UQ S36 (a40.add (i39.toNat * 1)) fun(p41:Option Addr)=>
 nn p41 fun a42=>
 QG S36 (a42.add 5) fun(i43:Int)=>
 nn p41 fun a44=>
 YX (a44.add 5) (IntKind.i64.wrap (i43+1)) (fun w=>
 JZ (r1.add 5) (fun(l45:Sl) w=>
 YF a2 (fun(x46:JB) w=>
 ZU t0 l45 x46 (fun(x47:Unit) w=>
 R (.tuple #[]) w) w) w) w) w) w)
 (br (i5==(22:Int))
 (QO (r1.add 2) (fun(s48:ByteArray) w=>
 br (!(s48.toList==(⟨#[]⟩:ByteArray).toList))
 (dw (fun w=>
 ∃ S49:World→Prop,S49 w∧
 nn t0 fun a50=>
 VU S49 a50 fun(l51:Sl)=>
 QG S49 a2 fun(i52:Int)=>
 nn l51.a fun a53=>
 0≤i52∧i52<((l51.n:Nat):Int)∧
 UQ S49 (a53.add (i52.toNat * 1)) fun(p54:Option Addr)=>
 YY S49 (r1.add 2) fun(s55:ByteArray)=>
 QG S49 (r1.add 1) fun(i56:Int)=>
 YU p54 s55 i56 true (fun(x57:Unit) w=>
 MS R t0 r1 a2 y4 w) w) w)
 (MS R t0 r1 a2 y4 w)) w)
 (R (.tuple #[]) w))))) w) w) w) w) w) w
theorem Abh(t0:Option Addr)(o0:JA)(A:JB)(K:Unit→World→Prop)(w:World)(h:PI t0 o0 A (Rt (QK) K) w):OZ t0 o0 A K w:=
  fnc (A:=[]) (by kernel_rfl) Tryz.func44 Tryz.ntmps44 rfl h
noncomputable def TX(t0:Option Addr)(o0:JA)(A:JB)(R:Value→World→Prop)(w:World):Prop:=
 bx (.cells o0.cells 27) (fun r1 w=>
 bx (.cells A.cells 63) (fun a2 w=>
 JZ (r1.add 5) (fun(l3:Sl) w=>
 JZ (r1.add 5) (fun(l4:Sl) w=>
 rn (Instr.sliceAt 25 (l4.v) none (some (.int .i64 (IntKind.i64.wrap ((l3.n:Int) - 1)))) none) (hSl) (fun(l5:Sl) w=>
 dw (fun w=>
 ∃ S6:World→Prop,S6 w∧
 nn t0 fun a7=>
 VU S6 a7 fun(l8:Sl)=>
 QG S6 a2 fun(i9:Int)=>
 nn l8.a fun a10=>
 0≤i9∧i9<((l8.n:Nat):Int)∧
 UQ S6 (a10.add (i9.toNat * 1)) fun(p11:Option Addr)=>
 YY S6 (r1.add 2) fun(s12:ByteArray)=>
 QG S6 (r1.add 1) fun(i13:Int)=>
 YU p11 s12 i13 true (fun(x14:Unit) w=>
 dw (fun w=>
 ∃ S15:World→Prop,S15 w∧
 nn t0 fun a16=>
 NX S15 (a16.add 1) fun(x17:Fv)=>
 QG S15 (r1.add 1) fun(i18:Int)=>
 clv (x17.v) #[.int .i64 109,.int .i64 i18,.bool (decide ((l5.n:Int) > (1000:Int)))] (QK) (fun(x19:Unit) w=>
 GN t0 l5 (fun(x20:Unit) w=>
 JF r1 (fun(x21:JA) w=>
 JK a2 (fun(i22:Int) w=>
 US t0 2 x21 i22 (fun(x23:JB) w=>
 bx (.cells #[.int .i64 0,.bool false,.bool false] 63) (fun a24 w=>
 IP a24 x23 (fun w=>
 dw (fun w=>
 ∃ S25:World→Prop,S25 w∧
 nn t0 fun a26=>
 VU S25 a26 fun(l27:Sl)=>
 QG S25 a24 fun(i28:Int)=>
 nn l27.a fun a29=>
 0≤i28∧i28<((l27.n:Nat):Int)∧
 UQ S25 (a29.add (i28.toNat * 1)) fun(p30:Option Addr)=>
 Lp (α:=Int) (fun x31=>[.int .i64 x31]) [.int .i64 0] (fun x31 again32 w=>
 br (decide (x31<(l5.n:Int)))
 (nn l5.a fun a33=>
 0≤x31∧x31<((l5.n:Nat):Int)∧
 JF (a33.add (x31.toNat * 6)) (fun(x34:JA) w=>
 bx (.cells #[.int .i64 0,.int .i64 0,.string (⟨#[]⟩:ByteArray),.bool false,.slice none 0 0,.slice none 0 0] 27) (fun a35 w=>
 JC a35 x34 (fun w=>
 QO (a35.add 2) (fun(s36:ByteArray) w=>
 JK (a35.add 1) (fun(i37:Int) w=>
 YU p30 s36 i37 true (fun(x38:Unit) w=>
 QO (a35.add 2) (fun(s39:ByteArray) w=>
 UK p30 s39 (fun(p40:Option Addr) w=>
 nn p40 fun a41=>
 HN (a41.add 3) true (fun w=>
 dw (fun w=>
 ∃ S42:World→Prop,S42 w∧
 nn p30 fun a43=>
 AaB S42 (a43.add 4) fun(l44:Sl)=>
 YY S42 (a35.add 2) fun(s45:ByteArray)=>
 bx (.cells #[.string s45] 9) (fun a46 w=>
 S42 w∧
 rn (Builtin.append_ #[76,76] 76 #[l44.v,.slice (some a46) 1 1]) (hSl) (fun(l47:Sl) w=>
 S42 w∧
 nn p30 fun a48=>
 Aaa (a48.add 4) l47 (fun w=>
 JZ (a35.add 5) (fun(l49:Sl) w=>
 YF a2 (fun(x50:JB) w=>
 ZU t0 l49 x50 (fun(x51:Unit) w=>
 again32 [.int .i64 (IntKind.i64.wrap (x31+1))] w) w) w) w) w) w) w) w) w) w) w) w) w) w) w) w) w)
 (dw (fun w=>
 ∃ S52:World→Prop,S52 w∧
 QM S52 (r1.add 5) fun(l53:Sl)=>
 nn l53.a fun a54=>
 0≤(IntKind.i64.wrap ((l3.n:Int) - 1))∧(IntKind.i64.wrap ((l3.n:Int) - 1))<((l53.n:Nat):Int)∧
 QB S52 (a54.add ((IntKind.i64.wrap ((l3.n:Int) - 1)).toNat * 6)) fun(x55:JA)=>
 ZD S52 a24 fun(x56:JB)=>
 ZF t0 x55 x56 (fun(x57:Unit) w=>
 R (.tuple #[]) w) w) w)) w) w) w) w) w) w) w) w) w) w) w) w) w) w) w) w) w
theorem Adl(t0:Option Addr)(o0:JA)(A:JB)(K:Unit→World→Prop)(w:World)(h:TX t0 o0 A (Rt (QK) K) w):KA t0 o0 A K w:=
  fnc (A:=[(9,[(61,QC .i64)])]) (by kernel_rfl) Tryz.func45 Tryz.ntmps45 rfl h
noncomputable def RP(w0:Option Addr)(n0:JA)(p0:JB)(R:Value→World→Prop)(w:World):Prop:=
 bx (.cells n0.cells 27) (fun n1 w=>
 bx (.cells p0.cells 63) (fun p2 w=>
 JF n1 (fun(x3:JA) w=>
 JK p2 (fun(i4:Int) w=>
 US w0 4 x3 i4 (fun(x5:JB) w=>
 bx (.cells #[.int .i64 0,.bool false,.bool false] 63) (fun in6 w=>
 IP in6 x5 (fun w=>
 dw (fun w=>
 ∃ S7:World→Prop,S7 w∧
 QM S7 (n1.add 5) fun(l8:Sl)=>
 nn l8.a fun a9=>
 0≤(0:Int)∧(0:Int)<((l8.n:Nat):Int)∧
 QB S7 a9 fun(x10:JA)=>
 ZD S7 in6 fun(x11:JB)=>
 ZF w0 x10 x11 (fun(x12:Unit) w=>
 dw (fun w=>
 ∃ S13:World→Prop,S13 w∧
 QM S13 (n1.add 5) fun(l14:Sl)=>
 nn l14.a fun a15=>
 0≤(1:Int)∧(1:Int)<((l14.n:Nat):Int)∧
 QB S13 (a15.add 6) fun(x16:JA)=>
 ZD S13 in6 fun(x17:JB)=>
 XO w0 x16 x17 (fun(x18:Unit) w=>
 dw (fun w=>
 ∃ S19:World→Prop,S19 w∧
 QM S19 (n1.add 5) fun(l20:Sl)=>
 nn l20.a fun a21=>
 0≤(2:Int)∧(2:Int)<((l20.n:Nat):Int)∧
 QB S19 (a21.add 12) fun(x22:JA)=>
 ZD S19 p2 fun(x23:JB)=>
 ZF w0 x22 x23 (fun(x24:Unit) w=>
 dw (fun w=>
 ∃ S25:World→Prop,S25 w∧
 QM S25 (n1.add 5) fun(l26:Sl)=>
 rnS S25 (Instr.sliceAt 25 (l26.v) (some (.int .i64 3)) none none) (hSl) fun(l27:Sl)=>
 ZD S25 in6 fun(x28:JB)=>
 ZU w0 l27 x28 (fun(x29:Unit) w=>
 R (.tuple #[]) w) w) w) w) w) w) w) w) w) w) w) w) w) w) w) w
theorem Ab8(w0:Option Addr)(n0:JA)(p0:JB)(K:Unit→World→Prop)(w:World)(h:RP w0 n0 p0 (Rt (QK) K) w):FA w0 n0 p0 K w:=
  fnc (A:=[]) (by kernel_rfl) Tryz.func46 Tryz.ntmps46 rfl h
noncomputable def RR(w0:Option Addr)(n0:JA)(R:Value→World→Prop)(w:World):Prop:=
 bx (.cells n0.cells 27) (fun n1 w=>
 dw (fun w=>
 ∃ S2:World→Prop,S2 w∧
 nn w0 fun a3=>
 NX S2 (a3.add 1) fun(x4:Fv)=>
 QG S2 (n1.add 1) fun(i5:Int)=>
 QM S2 (n1.add 5) fun(l6:Sl)=>
 clv (x4.v) #[.int .i64 109,.int .i64 i5,.bool (decide ((l6.n:Int) > (1000:Int)))] (QK) (fun(x7:Unit) w=>
 R (.tuple #[]) w) w) w) w
theorem Aca(w0:Option Addr)(n0:JA)(K:Unit→World→Prop)(w:World)(h:RR w0 n0 (Rt (QK) K) w):DK w0 n0 K w:=
  fnc (A:=[]) (by kernel_rfl) Tryz.func47 Tryz.ntmps47 rfl h
noncomputable def PJ(w0:Option Addr)(l0:Sl)(R:Value→World→Prop)(w:World):Prop:=
 rn (Instr.makeMap 147 none) (Ae7) (fun(m1:Option Nat) w=>
 Lp (α:=Int) (fun x2=>[.int .i64 x2]) [.int .i64 0] (fun x2 again3 w=>
 br (decide (x2<(l0.n:Int)))
 (nn l0.a fun a4=>
 0≤x2∧x2<((l0.n:Nat):Int)∧
 JF (a4.add (x2.toNat * 6)) (fun(x5:JA) w=>
 bx (.cells #[.int .i64 0,.int .i64 0,.string (⟨#[]⟩:ByteArray),.bool false,.slice none 0 0,.slice none 0 0] 27) (fun n6 w=>
 JC n6 x5 (fun w=>
 QO (n6.add 2) (fun(s7:ByteArray) w=>
 AbD m1 s7 (fun(x8:UT) w=>
 dw (fun w=>
 ∃ S9:World→Prop,S9 w∧
 nn w0 fun a10=>
 NX S9 (a10.add 1) fun(x11:Fv)=>
 QG S9 (n6.add 1) fun(i12:Int)=>
 clv (x11.v) #[.int .i64 110,.int .i64 i12,.bool x8.x1] (QK) (fun(x13:Unit) w=>
 QO (n6.add 2) (fun(s14:ByteArray) w=>
 Aem m1 s14 x2 (fun w=>
 again3 [.int .i64 (IntKind.i64.wrap (x2+1))] w) w) w) w) w) w) w) w) w) w)
 (R (.tuple #[]) w)) w) w
theorem Abi(w0:Option Addr)(l0:Sl)(K:Unit→World→Prop)(w:World)(h:PJ w0 l0 (Rt (QK) K) w):GN w0 l0 K w:=
  fnc (A:=[(2,[(12,QC .i64)])]) (by kernel_rfl) Tryz.func48 Tryz.ntmps48 rfl h
noncomputable def NC(k0:JA)(R:Value→World→Prop)(w:World):Prop:=
 bx (.cells k0.cells 27) (fun k1 w=>
 JK k1 (fun(i2:Int) w=>
 R (.bool (i2 != (52:Int))) w) w) w
theorem AaQ(k0:JA)(K:Bool→World→Prop)(w:World)(h:NC k0 (Rt (JS) K) w):Adm k0 K w:=
  fnc (A:=[]) (by kernel_rfl) Tryz.func51 Tryz.ntmps51 rfl h
noncomputable def AS(R:Value→World→Prop)(w23:Option Addr)(i24:Int)(text25:ByteArray)(n26:Option Addr)(w:World):Prop:=
 nn n26 fun a27=>
 OR (a27.add 2) (fun(b28:Bool) w=>
 br (b28)
 (R (.int .i64 1) w)
 (DJ w23 i24 text25 (fun(i29:Int) w=>
 br (decide (i29≥(0:Int)))
 (R (.int .i64 3) w)
 (R (.int .i64 4) w)) w)) w
noncomputable def LD(R:Value→World→Prop)(w12:Option Addr)(i13:Int)(text14:ByteArray)(s15:Option Addr)(n16:Option Addr)(w:World):Prop:=
 nn n16 fun a17=>
 JK (a17.add 4) (fun(i18:Int) w=>
 br (i18==(14:Int))
 (R (.int .i64 3) w)
 (nn n16 fun a19=>
 OR (a19.add 2) (fun(b20:Bool) w=>
 br (b20)
 (nn s15 fun a21=>
 JK a21 (fun(i22:Int) w=>
 br (i22==(3:Int))
 (R (.int .i64 5) w)
 (AS R w12 i13 text14 n16 w)) w)
 (AS R w12 i13 text14 n16 w)) w)) w
noncomputable def RV(w0:Option Addr)(i0:Int)(text:ByteArray)(R:Value→World→Prop)(w:World):Prop:=
 nn w0 fun a1=>
 QN a1 (fun(l2:Sl) w=>
 nn l2.a fun a3=>
 0≤i0∧i0<((l2.n:Nat):Int)∧
 ZA (a3.add (i0.toNat * 1)) (fun(p4:Option Addr) w=>
 nn p4 fun a5=>
 ZL (a5.add 3) (fun(m6:Option Nat) w=>
 YT m6 text (fun(p7:Option Addr) w=>
 nn p4 fun a8=>
 JK a8 (fun(i9:Int) w=>
 br (i9==(1:Int))
 (R (.int .i64 4) w)
 (nn p7 fun a10=>
 JK (a10.add 4) (fun(i11:Int) w=>
 br (i11==(13:Int))
 (R (.int .i64 4) w)
 (LD R w0 i0 text p4 p7 w)) w)) w) w) w) w) w
theorem Acf(w0:Option Addr)(i0:Int)(text:ByteArray)(K:Int→World→Prop)(w:World)(h:RV w0 i0 text (Rt (QC .i64) K) w):IC w0 i0 text K w:=
  fnc (A:=[]) (by kernel_rfl) Tryz.func54 Tryz.ntmps54 rfl h
noncomputable def YI(again8:List Value→World→Prop)(t26:Option Addr)(x28:Int)(w:World):Prop:=
 nn t26 fun a29=>
 QN a29 (fun(l30:Sl) w=>
 nn l30.a fun a31=>
 0≤x28∧x28<((l30.n:Nat):Int)∧
 ZA (a31.add (x28.toNat * 1)) (fun(p32:Option Addr) w=>
 nn p32 fun a33=>
 JK (a33.add 2) (fun(i34:Int) w=>
 again8 [.int .i64 i34] w) w) w) w
noncomputable def RQ(t0:Option Addr)(o0:Int)(A:ByteArray)(R:Value→World→Prop)(w:World):Prop:=
 nn t0 fun a1=>
 QN a1 (fun(l2:Sl) w=>
 nn l2.a fun a3=>
 0≤o0∧o0<((l2.n:Nat):Int)∧
 ZA (a3.add (o0.toNat * 1)) (fun(p4:Option Addr) w=>
 nn p4 fun a5=>
 JK (a5.add 2) (fun(i6:Int) w=>
 Lp (α:=Int) (fun x7=>[.int .i64 x7]) [.int .i64 i6] (fun x7 again8 w=>
 br (decide (x7≥(0:Int)))
 (nn t0 fun a9=>
 QN a9 (fun(l10:Sl) w=>
 nn l10.a fun a11=>
 0≤x7∧x7<((l10.n:Nat):Int)∧
 ZA (a11.add (x7.toNat * 1)) (fun(p12:Option Addr) w=>
 nn p12 fun a13=>
 ZL (a13.add 3) (fun(m14:Option Nat) w=>
 FO m14 A (fun(x15:GI) w=>
 nn t0 fun a16=>
 QN a16 (fun(l17:Sl) w=>
 nn l17.a fun a18=>
 0≤x7∧x7<((l17.n:Nat):Int)∧
 ZA (a18.add (x7.toNat * 1)) (fun(p19:Option Addr) w=>
 nn p19 fun a20=>
 JK a20 (fun(i21:Int) w=>
 br (x15.x1)
 (br (i21==(2:Int))
 (nn x15.x0 fun a22=>
 OR (a22.add 2) (fun(b23:Bool) w=>
 br (b23)
 (nn x15.x0 fun a24=>
 JK (a24.add 4) (fun(i25:Int) w=>
 br (i25==(0:Int))
 (R (.int .i64 x7) w)
 (YI again8 t0 x7 w)) w)
 (YI again8 t0 x7 w)) w)
 (br (i21==(4:Int))
 (nn x15.x0 fun a35=>
 OR (a35.add 2) (fun(b36:Bool) w=>
 br (b36)
 (nn x15.x0 fun a37=>
 JK (a37.add 4) (fun(i38:Int) w=>
 br (i38==(0:Int))
 (R (.int .i64 x7) w)
 (YI again8 t0 x7 w)) w)
 (YI again8 t0 x7 w)) w)
 (YI again8 t0 x7 w)))
 (YI again8 t0 x7 w)) w) w) w) w) w) w) w)
 (R (.int .i64 (-1)) w)) w) w) w) w
theorem Ab9(t0:Option Addr)(o0:Int)(A:ByteArray)(K:Int→World→Prop)(w:World)(h:RQ t0 o0 A (Rt (QC .i64) K) w):DJ t0 o0 A K w:=
  fnc (A:=[(2,[(7,QC .i64)])]) (by kernel_rfl) Tryz.func55 Tryz.ntmps55 rfl h
noncomputable def Abq(s0:Option Addr)(text:ByteArray)(R:Value→World→Prop)(w:World):Prop:=
 nn s0 fun a1=>
 ZL (a1.add 3) (fun(m2:Option Nat) w=>
 YT m2 text (fun(p3:Option Addr) w=>
 bin .eql 104 (.pointer p3) (.pointer none) (JS) (fun(b4:Bool) w=>
 br (b4)
 (rn (Instr.makeMap 105 none) (Ae7) (fun(m5:Option Nat) w=>
 bx (.cells #[.bool false,.int .i64 0,.bool false,.bool false,.int .i64 0,.map m5] 107) (fun a6 w=>
 nn s0 fun a7=>
 ZL (a7.add 3) (fun(m8:Option Nat) w=>
 LQ m8 text (some a6) (fun w=>
 R (.pointer (some a6)) w) w) w) w) w)
 (R (.pointer p3) w)) w) w) w
theorem Ae3(s0:Option Addr)(text:ByteArray)(K:Option Addr→World→Prop)(w:World)(h:Abq s0 text (Rt (SO) K) w):UK s0 text K w:=
  fnc (A:=[]) (by kernel_rfl) Tryz.func56 Tryz.ntmps56 rfl h
noncomputable def VS(R:Value→World→Prop)(x10:Addr)(x11:Addr)(x12:Addr)(x13:Addr)(x14:Addr)(w:World):Prop:=
 JK x12 (fun(i15:Int) w=>
 br (i15==(14:Int))
 (dw (fun w=>
 ∃ S16:World→Prop,S16 w∧
 UY S16 x10 fun(p17:Option Addr)=>
 nn p17 fun a18=>
 NX S16 (a18.add 1) fun(x19:Fv)=>
 QG S16 (x11.add 1) fun(i20:Int)=>
 UQ S16 x13 fun(p21:Option Addr)=>
 nn p21 fun a22=>
 QG S16 a22 fun(i23:Int)=>
 br (i23 != (2:Int))
 (S16 w∧
 clv (x19.v) #[.int .i64 115,.int .i64 i20,.bool true] (QK) (fun(x24:Unit) w=>
 R (.tuple #[]) w) w)
 (UY S16 x10 fun(p25:Option Addr)=>
 QG S16 x14 fun(i26:Int)=>
 YY S16 (x11.add 2) fun(s27:ByteArray)=>
 DJ p25 i26 s27 (fun(i28:Int) w=>
 S16 w∧
 clv (x19.v) #[.int .i64 115,.int .i64 i20,.bool (decide (i28<(0:Int)))] (QK) (fun(x29:Unit) w=>
 R (.tuple #[]) w) w) w)) w)
 (R (.tuple #[]) w)) w
noncomputable def FJ(c0:Addr)(c1:Addr)(c2:Addr)(c3:Addr)(c4:Addr)(c5:Addr)(R:Value→World→Prop)(w:World):Prop:=
 dw (fun w=>
 ∃ S1:World→Prop,S1 w∧
 UY S1 c0 fun(p2:Option Addr)=>
 nn p2 fun a3=>
 NX S1 (a3.add 1) fun(x4:Fv)=>
 QG S1 (c1.add 1) fun(i5:Int)=>
 AC S1 c2 fun(p6:Option Addr)=>
 nn p6 fun a7=>
 Aef S1 (a7.add 3) fun(b8:Bool)=>
 br (b8)
 (clv (x4.v) #[.int .i64 114,.int .i64 i5,.bool true] (QK) (fun(x9:Unit) w=>
 VS R c0 c1 c3 c4 c5 w) w)
 (AC S1 c2 fun(p30:Option Addr)=>
 nn p30 fun a31=>
 Aef S1 a31 fun(b32:Bool)=>
 br (b32)
 (AC S1 c2 fun(p33:Option Addr)=>
 nn p33 fun a34=>
 QG S1 (a34.add 1) fun(i35:Int)=>
 QG S1 (c1.add 1) fun(i36:Int)=>
 clv (x4.v) #[.int .i64 114,.int .i64 i5,.bool (decide (i35<i36))] (QK) (fun(x37:Unit) w=>
 VS R c0 c1 c3 c4 c5 w) w)
 (clv (x4.v) #[.int .i64 114,.int .i64 i5,.bool false] (QK) (fun(x38:Unit) w=>
 VS R c0 c1 c3 c4 c5 w) w))) w
theorem SC(c0:Addr)(c1:Addr)(c2:Addr)(c3:Addr)(c4:Addr)(c5:Addr)(K:Unit→World→Prop)(w:World)(h:FJ c0 c1 c2 c3 c4 c5 (Rt (QK) K) w):FH c0 c1 c2 c3 c4 c5 K w:=
  fnc (A:=[]) (by kernel_rfl) Tryz.func87 Tryz.ntmps87 rfl h
end Go.Proofs.YtjiagmjfnbljjaaGreatDoor
end
section
namespace Go.Proofs.YtjiagmjfnbljjaaGreatDoor
open Go
set_option linter.unusedVariables false
set_option maxRecDepth 100000
noncomputable def AgG(vals:Sl)(R:Value→World→Prop)(w:World):Prop:=
 Lp (α:=Int) (fun x1=>[.int .i64 x1]) [.int .i64 0] (fun x1 again2 w=>
 br (decide (x1<(vals.n:Int)))
 (nn vals.a fun a3=>
 0≤x1∧x1<((vals.n:Nat):Int)∧
 JK (a3.add (x1.toNat * 1)) (fun(i4:Int) w=>
 br (i4 != (0:Int))
 (R (.int .i64 i4) w)
 (again2 [.int .i64 (IntKind.i64.wrap (x1+1))] w)) w)
 (R (.int .i64 0) w)) w
theorem AiX(vals:Sl)(K:Int→World→Prop)(w:World)(h:AgG vals (Rt (QC .i64) K) w):AbP vals K w:=
  fnc (A:=[(3,[(8,QC .i64)])]) (by kernel_rfl) Tryz.func19 Tryz.ntmps19 rfl h
noncomputable def Aam(x0:Int)(y0:Int)(R:Value→World→Prop)(w:World):Prop:=
 FU x0 (fun(b1:Bool) w=>
 FU y0 (fun(b2:Bool) w=>
 br (b1)
 (br (b2)
 (R (.int .i64 0) w)
 (R (.int .i64 (-1)) w))
 (br (b2)
 (R (.int .i64 1) w)
 (br (decide (x0<y0))
 (R (.int .i64 (-1)) w)
 (br (decide (x0 > y0))
 (R (.int .i64 1) w)
 (R (.int .i64 0) w))))) w) w
theorem Adv(x0:Int)(y0:Int)(K:Int→World→Prop)(w:World)(h:Aam x0 y0 (Rt (QC .i64) K) w):OL x0 y0 K w:=
  fnc (A:=[]) (by kernel_rfl) Tryz.func20 Tryz.ntmps20 rfl h
noncomputable def AcO(x0:Int)(R:Value→World→Prop)(w:World):Prop:=
 R (.bool (x0 != x0)) w
theorem AfT(x0:Int)(K:Bool→World→Prop)(w:World)(h:AcO x0 (Rt (JS) K) w):FU x0 K w:=
  fnc (A:=[]) (by kernel_rfl) Tryz.func39 Tryz.ntmps39 rfl h
noncomputable def XN(s0:Sl)(del:Fv)(R:Value→World→Prop)(w:World):Prop:=
 XR s0 del (fun(i1:Int) w=>
 br (i1==((-1):Int))
 (R (s0.v) w)
 (Lp (α:=Int×Int) (fun x2=>[.int .i64 x2.1,.int .i64 x2.2]) [.int .i64 i1,.int .i64 (IntKind.i64.wrap (i1+1))] (fun x2 again3 w=>
 br (decide (x2.2<(s0.n:Int)))
 (nn s0.a fun a4=>
 0≤x2.2∧x2.2<((s0.n:Nat):Int)∧
 JF (a4.add (x2.2.toNat * 6)) (fun(x5:JA) w=>
 bx (.cells #[.int .i64 0,.int .i64 0,.string (⟨#[]⟩:ByteArray),.bool false,.slice none 0 0,.slice none 0 0] 27) (fun v6 w=>
 JC v6 x5 (fun w=>
 JF v6 (fun(x7:JA) w=>
 clv (del.v) #[x7.v] (JS) (fun(b8:Bool) w=>
 br (!b8)
 (JF v6 (fun(x9:JA) w=>
 nn s0.a fun a10=>
 0≤x2.1∧x2.1<((s0.n:Nat):Int)∧
 JC (a10.add (x2.1.toNat * 6)) x9 (fun w=>
 again3 [.int .i64 (IntKind.i64.wrap (x2.1+1)),.int .i64 (IntKind.i64.wrap (x2.2+1))] w) w) w)
 (again3 [.int .i64 x2.1,.int .i64 (IntKind.i64.wrap (x2.2+1))] w)) w) w) w) w) w)
 (rn (Instr.sliceAt 25 (s0.v) (some (.int .i64 x2.1)) none none) (hSl) (fun(l11:Sl) w=>
 rn (Builtin.clear_ #[25] 0 #[l11.v]) (QK) (fun(x12:Unit) w=>
 rn (Instr.sliceAt 25 (s0.v) none (some (.int .i64 x2.1)) none) (hSl) (fun(l13:Sl) w=>
 R (l13.v) w) w) w) w)) w)) w
theorem VP(s0:Sl)(del:Fv)(K:Sl→World→Prop)(w:World)(h:XN s0 del (Rt (hSl) K) w):XM s0 del K w:=
  fnc (A:=[(5,[(5,QC .i64),(6,QC .i64)])]) (by kernel_rfl) Tryz.func49 Tryz.ntmps49 rfl h
noncomputable def HG(s0:Sl)(R:Value→World→Prop)(w:World):Prop:=
 bin .eql 25 (s0.v) (.slice none 0 0) (JS) (fun(b1:Bool) w=>
 br (b1)
 (R (.slice none 0 0) w)
 (bx (.cells #[] 27) (fun a2 w=>
 rn (Builtin.append_ #[25,25] 25 #[.slice (some a2) 0 0,s0.v]) (hSl) (fun(l3:Sl) w=>
 R (l3.v) w) w) w)) w
theorem FI(s0:Sl)(K:Sl→World→Prop)(w:World)(h:HG s0 (Rt (hSl) K) w):GV s0 K w:=
  fnc (A:=[]) (by kernel_rfl) Tryz.func50 Tryz.ntmps50 rfl h
noncomputable def VX(m0:Option Nat)(R:Value→World→Prop)(w:World):Prop:=
 bx (.cells #[.map m0] 93) (fun m1 w=>
 R (.func (.func 91) #[] #[.pointer (some m1)]) w) w
theorem MY(m0:Option Nat)(K:Fv→World→Prop)(w:World)(h:VX m0 (Rt (hFn) K) w):QX m0 K w:=
  fnc (A:=[]) (by kernel_rfl) Tryz.func53 Tryz.ntmps53 rfl h
noncomputable def HX(m0:Option Nat)(R:Value→World→Prop)(w:World):Prop:=
 bx (.cells #[.map m0] 105) (fun m1 w=>
 R (.func (.func 94) #[] #[.pointer (some m1)]) w) w
theorem FZ(m0:Option Nat)(K:Fv→World→Prop)(w:World)(h:HX m0 (Rt (hFn) K) w):DM m0 K w:=
  fnc (A:=[]) (by kernel_rfl) Tryz.func58 Tryz.ntmps58 rfl h
noncomputable def MZ(s0:Sl)(v0:ByteArray)(R:Value→World→Prop)(w:World):Prop:=
 Lp (α:=Int) (fun x1=>[.int .i64 x1]) [.int .i64 0] (fun x1 again2 w=>
 br (decide (x1<(s0.n:Int)))
 (nn s0.a fun a3=>
 0≤x1∧x1<((s0.n:Nat):Int)∧
 QO (a3.add (x1.toNat * 1)) (fun(s4:ByteArray) w=>
 br ((v0.toList==s4.toList))
 (R (.int .i64 x1) w)
 (again2 [.int .i64 (IntKind.i64.wrap (x1+1))] w)) w)
 (R (.int .i64 (-1)) w)) w
theorem HW(s0:Sl)(v0:ByteArray)(K:Int→World→Prop)(w:World)(h:MZ s0 v0 (Rt (QC .i64) K) w):GD s0 v0 K w:=
  fnc (A:=[(2,[(8,QC .i64)])]) (by kernel_rfl) Tryz.func59 Tryz.ntmps59 rfl h
noncomputable def YQ(s0:Sl)(f0:Fv)(R:Value→World→Prop)(w:World):Prop:=
 Lp (α:=Int) (fun x1=>[.int .i64 x1]) [.int .i64 0] (fun x1 again2 w=>
 br (decide (x1<(s0.n:Int)))
 (nn s0.a fun a3=>
 0≤x1∧x1<((s0.n:Nat):Int)∧
 JF (a3.add (x1.toNat * 6)) (fun(x4:JA) w=>
 clv (f0.v) #[x4.v] (JS) (fun(b5:Bool) w=>
 br (b5)
 (R (.int .i64 x1) w)
 (again2 [.int .i64 (IntKind.i64.wrap (x1+1))] w)) w) w)
 (R (.int .i64 (-1)) w)) w
theorem XC(s0:Sl)(f0:Fv)(K:Int→World→Prop)(w:World)(h:YQ s0 f0 (Rt (QC .i64) K) w):XR s0 f0 K w:=
  fnc (A:=[(2,[(8,QC .i64)])]) (by kernel_rfl) Tryz.func88 Tryz.ntmps88 rfl h
noncomputable def HY(s0:Sl)(v0:ByteArray)(R:Value→World→Prop)(w:World):Prop:=
 GD s0 v0 (fun(i1:Int) w=>
 R (.bool (decide (i1≥(0:Int)))) w) w
theorem KB(s0:Sl)(v0:ByteArray)(K:Bool→World→Prop)(w:World)(h:HY s0 v0 (Rt (JS) K) w):HV s0 v0 K w:=
  fnc (A:=[]) (by kernel_rfl) Tryz.func174 Tryz.ntmps174 rfl h
noncomputable def GS(s0:Sl)(f0:Fv)(R:Value→World→Prop)(w:World):Prop:=
 DS s0 f0 (fun(i1:Int) w=>
 R (.bool (decide (i1≥(0:Int)))) w) w
theorem HR(s0:Sl)(f0:Fv)(K:Bool→World→Prop)(w:World)(h:GS s0 f0 (Rt (JS) K) w):GR s0 f0 K w:=
  fnc (A:=[]) (by kernel_rfl) Tryz.func182 Tryz.ntmps182 rfl h
noncomputable def MC(s0:Sl)(f0:Fv)(R:Value→World→Prop)(w:World):Prop:=
 XR s0 f0 (fun(i1:Int) w=>
 R (.bool (decide (i1≥(0:Int)))) w) w
theorem BD(s0:Sl)(f0:Fv)(K:Bool→World→Prop)(w:World)(h:MC s0 f0 (Rt (JS) K) w):VW s0 f0 K w:=
  fnc (A:=[]) (by kernel_rfl) Tryz.func228 Tryz.ntmps228 rfl h
noncomputable def DU(s0:Sl)(f0:Fv)(R:Value→World→Prop)(w:World):Prop:=
 Lp (α:=Int) (fun x1=>[.int .i64 x1]) [.int .i64 0] (fun x1 again2 w=>
 br (decide (x1<(s0.n:Int)))
 (nn s0.a fun a3=>
 0≤x1∧x1<((s0.n:Nat):Int)∧
 OB (a3.add (x1.toNat * 1)) (fun(x4:Fv) w=>
 clv (f0.v) #[x4.v] (JS) (fun(b5:Bool) w=>
 br (b5)
 (R (.int .i64 x1) w)
 (again2 [.int .i64 (IntKind.i64.wrap (x1+1))] w)) w) w)
 (R (.int .i64 (-1)) w)) w
theorem IR(s0:Sl)(f0:Fv)(K:Int→World→Prop)(w:World)(h:DU s0 f0 (Rt (QC .i64) K) w):DS s0 f0 K w:=
  fnc (A:=[(2,[(8,QC .i64)])]) (by kernel_rfl) Tryz.func230 Tryz.ntmps230 rfl h
end Go.Proofs.YtjiagmjfnbljjaaGreatDoor
end
section
namespace Go.Proofs.YtjiagmjfnbljjaaGreatDoor
open Go
set_option linter.unusedVariables false
set_option maxRecDepth 100000
noncomputable def Aav(again5:List Value→World→Prop)(t15:ByteArray)(a16:Sl)(y17:Int)(x18:Int)(w:World):Prop:=
 rn (Instr.sliceAt 9 (.string t15) (some (.int .i64 y17)) (some (.int .i64 (IntKind.i64.wrap (y17+x18)))) none) (EB) (fun(s19:ByteArray) w=>
 rn (Builtin.append_ #[42,9] 42 #[a16.v,.string s19]) (hSl) (fun(l20:Sl) w=>
 again5 [l20.v,.int .i64 (IntKind.i64.wrap (y17+x18))] w) w) w
noncomputable def OO(R:Value→World→Prop)(t3:ByteArray)(w:World):Prop:=
 Lp (α:=Sl×Int) (fun x4=>[x4.1.v,.int .i64 x4.2]) [.slice none 0 0,.int .i64 1] (fun x4 again5 w=>
 br (decide (x4.2<(t3.size:Int)))
 (dw (fun w=>
 rnS (fun _=>True) (Instr.index 9 (.string t3) (.int .i64 x4.2)) (QC .u8) fun(i6:Int)=>
 rnS (fun _=>True) (Instr.index 9 (.string t3) (.int .i64 0)) (QC .u8) fun(i7:Int)=>
 br (i6==i7)
 (rn (convert 42 9 (x4.1.v)) (EB) (fun(s8:ByteArray) w=>
 R (.tuple #[.string s8,.int .i64 (IntKind.i64.wrap (x4.2+1)),.int .i64 0]) w) w)
 (rn (Instr.index 9 (.string t3) (.int .i64 x4.2)) (QC .u8) (fun(i9:Int) w=>
 br (i9==(92:Int))
 (AaP t3 (IntKind.i64.wrap (x4.2+1)) (fun(x10:HI) w=>
 br (x10.x1==(0:Int))
 (R (.tuple #[.string (⟨#[]⟩:ByteArray),.int .i64 0,.int .i64 4]) w)
 (rn (Builtin.append_ #[42,9] 42 #[x4.1.v,.string x10.x0]) (hSl) (fun(l11:Sl) w=>
 again5 [l11.v,.int .i64 (IntKind.i64.wrap (IntKind.i64.wrap (x4.2+1)+x10.x1))] w) w)) w)
 (Ab7 t3 x4.2 (fun(i12:Int) w=>
 rn (Instr.index 9 (.string t3) (.int .i64 x4.2)) (QC .u8) (fun(i13:Int) w=>
 br (decide (i13<(32:Int)))
 (R (.tuple #[.string (⟨#[]⟩:ByteArray),.int .i64 0,.int .i64 4]) w)
 (rn (Instr.index 9 (.string t3) (.int .i64 x4.2)) (QC .u8) (fun(i14:Int) w=>
 br (i14==(127:Int))
 (R (.tuple #[.string (⟨#[]⟩:ByteArray),.int .i64 0,.int .i64 4]) w)
 (br (i12==(0:Int))
 (R (.tuple #[.string (⟨#[]⟩:ByteArray),.int .i64 0,.int .i64 4]) w)
 (Aav again5 t3 x4.1 x4.2 i12 w))) w)) w) w)) w)) w)
 (R (.tuple #[.string (⟨#[]⟩:ByteArray),.int .i64 0,.int .i64 4]) w)) w
noncomputable def AdS(t0:ByteArray)(R:Value→World→Prop)(w:World):Prop:=
 br ((t0.toList==(⟨#[]⟩:ByteArray).toList))
 (R (.tuple #[.string (⟨#[]⟩:ByteArray),.int .i64 0,.int .i64 4]) w)
 (rn (Instr.index 9 (.string t0) (.int .i64 0)) (QC .u8) (fun(i1:Int) w=>
 br (i1 != (39:Int))
 (rn (Instr.index 9 (.string t0) (.int .i64 0)) (QC .u8) (fun(i2:Int) w=>
 br (i2 != (34:Int))
 (R (.tuple #[.string (⟨#[]⟩:ByteArray),.int .i64 0,.int .i64 4]) w)
 (OO R t0 w)) w)
 (OO R t0 w)) w)
theorem AgB(t0:ByteArray)(K:UP→World→Prop)(w:World)(h:AdS t0 (Rt (UX) K) w):KT t0 K w:=
  fnc (A:=[(5,[(5,hSl),(6,QC .i64)])]) (by kernel_rfl) Tryz.func101 Tryz.ntmps101 rfl h
noncomputable def AgM(s0:ByteArray)(R:Value→World→Prop)(w:World):Prop:=
 Lp (α:=Int) (fun i1=>[.int .i64 i1]) [.int .i64 0] (fun i1 again2 w=>
 br (decide (i1<(s0.size:Int)))
 (rn (Instr.index 9 (.string s0) (.int .i64 i1)) (QC .u8) (fun(i3:Int) w=>
 br (decide (i3≥(97:Int)))
 (br (decide (i3≤(122:Int)))
 (again2 [.int .i64 (IntKind.i64.wrap (i1+1))] w)
 (br (decide (i3≥(65:Int)))
 (br (decide (i3≤(90:Int)))
 (again2 [.int .i64 (IntKind.i64.wrap (i1+1))] w)
 (br (i3==(95:Int))
 (again2 [.int .i64 (IntKind.i64.wrap (i1+1))] w)
 (br (decide (i1 > (0:Int)))
 (br (decide (i3≥(48:Int)))
 (br (!(decide (i3≤(57:Int))))
 (R (.bool false) w)
 (again2 [.int .i64 (IntKind.i64.wrap (i1+1))] w))
 (R (.bool false) w))
 (R (.bool false) w))))
 (br (i3==(95:Int))
 (again2 [.int .i64 (IntKind.i64.wrap (i1+1))] w)
 (br (decide (i1 > (0:Int)))
 (br (decide (i3≥(48:Int)))
 (br (!(decide (i3≤(57:Int))))
 (R (.bool false) w)
 (again2 [.int .i64 (IntKind.i64.wrap (i1+1))] w))
 (R (.bool false) w))
 (R (.bool false) w)))))
 (br (decide (i3≥(65:Int)))
 (br (decide (i3≤(90:Int)))
 (again2 [.int .i64 (IntKind.i64.wrap (i1+1))] w)
 (br (i3==(95:Int))
 (again2 [.int .i64 (IntKind.i64.wrap (i1+1))] w)
 (br (decide (i1 > (0:Int)))
 (br (decide (i3≥(48:Int)))
 (br (!(decide (i3≤(57:Int))))
 (R (.bool false) w)
 (again2 [.int .i64 (IntKind.i64.wrap (i1+1))] w))
 (R (.bool false) w))
 (R (.bool false) w))))
 (br (i3==(95:Int))
 (again2 [.int .i64 (IntKind.i64.wrap (i1+1))] w)
 (br (decide (i1 > (0:Int)))
 (br (decide (i3≥(48:Int)))
 (br (!(decide (i3≤(57:Int))))
 (R (.bool false) w)
 (again2 [.int .i64 (IntKind.i64.wrap (i1+1))] w))
 (R (.bool false) w))
 (R (.bool false) w))))) w)
 (br (!(s0.toList==(⟨#[]⟩:ByteArray).toList))
 (SB s0 (fun(b4:Bool) w=>
 R (.bool (!b4)) w) w)
 (R (.bool false) w))) w
theorem Ai3(s0:ByteArray)(K:Bool→World→Prop)(w:World)(h:AgM s0 (Rt (JS) K) w):AbW s0 K w:=
  fnc (A:=[(2,[(3,QC .i64)])]) (by kernel_rfl) Tryz.func149 Tryz.ntmps149 rfl h
noncomputable def IH(R:Value→World→Prop)(s2:ByteArray)(at3:Int)(x4:Int)(x5:Bool)(w:World):Prop:=
 br (x5)
 (rn (Instr.sliceAt 9 (.string s2) (some (.int .i64 at3)) (some (.int .i64 (IntKind.i64.wrap (at3+1)))) none) (EB) (fun(s6:ByteArray) w=>
 R (.tuple #[.string s6,.int .i64 1]) w) w)
 (br (x4==(110:Int))
 (R (.tuple #[.string (⟨#[10]⟩:ByteArray),.int .i64 1]) w)
 (br (x4==(116:Int))
 (R (.tuple #[.string (⟨#[9]⟩:ByteArray),.int .i64 1]) w)
 (br (x4==(120:Int))
 (NS s2 (IntKind.i64.wrap (at3+1)) 2 (fun(i7:Int) w=>
 br (decide (i7≥(0:Int)))
 (br (decide (i7<(128:Int)))
 (rn (convert 21 9 (.int .i32 (IntKind.i32.wrap i7))) (EB) (fun(s8:ByteArray) w=>
 R (.tuple #[.string s8,.int .i64 3]) w) w)
 (R (.tuple #[.string (⟨#[]⟩:ByteArray),.int .i64 0]) w))
 (R (.tuple #[.string (⟨#[]⟩:ByteArray),.int .i64 0]) w)) w)
 (br (x4==(117:Int))
 (NS s2 (IntKind.i64.wrap (at3+1)) 4 (fun(i9:Int) w=>
 br (decide (i9≥(0:Int)))
 (br (decide (i9<(55296:Int)))
 (rn (convert 21 9 (.int .i32 (IntKind.i32.wrap i9))) (EB) (fun(s10:ByteArray) w=>
 R (.tuple #[.string s10,.int .i64 5]) w) w)
 (br (decide (i9 > (57343:Int)))
 (rn (convert 21 9 (.int .i32 (IntKind.i32.wrap i9))) (EB) (fun(s11:ByteArray) w=>
 R (.tuple #[.string s11,.int .i64 5]) w) w)
 (R (.tuple #[.string (⟨#[]⟩:ByteArray),.int .i64 0]) w)))
 (R (.tuple #[.string (⟨#[]⟩:ByteArray),.int .i64 0]) w)) w)
 (R (.tuple #[.string (⟨#[]⟩:ByteArray),.int .i64 0]) w)))))
noncomputable def Afq(s0:ByteArray)(at0:Int)(R:Value→World→Prop)(w:World):Prop:=
 br (decide (at0≥(s0.size:Int)))
 (R (.tuple #[.string (⟨#[]⟩:ByteArray),.int .i64 0]) w)
 (rn (Instr.index 9 (.string s0) (.int .i64 at0)) (QC .u8) (fun(i1:Int) w=>
 br (i1==(92:Int))
 (IH R s0 at0 i1 (i1==(92:Int)) w)
 (br (i1==(39:Int))
 (IH R s0 at0 i1 (i1==(39:Int)) w)
 (IH R s0 at0 i1 (i1==(34:Int)) w))) w)
theorem AhA(s0:ByteArray)(at0:Int)(K:HI→World→Prop)(w:World)(h:Afq s0 at0 (Rt (OA) K) w):AaP s0 at0 K w:=
  fnc (A:=[]) (by kernel_rfl) Tryz.func156 Tryz.ntmps156 rfl h
noncomputable def AcQ(R:Value→World→Prop)(again2:List Value→World→Prop)(s3:ByteArray)(at4:Int)(n5:Int)(w:World):Prop:=
 rn (Instr.sliceAt 9 (.string s3) (some (.int .i64 at4)) (some (.int .i64 (IntKind.i64.wrap (at4+n5)))) none) (EB) (fun(s6:ByteArray) w=>
 NR s6 (fun(l7:Sl) w=>
 dw (fun w=>
 br ((l7.n:Int)==(1:Int))
 (rnS (fun _=>True) (Instr.sliceAt 9 (.string s3) (some (.int .i64 at4)) (some (.int .i64 (IntKind.i64.wrap (at4+n5)))) none) (EB) fun(s8:ByteArray)=>
 rn (convert 206 9 (l7.v)) (EB) (fun(s9:ByteArray) w=>
 (fun _=>True) w∧
 br ((s9.toList==s8.toList))
 (R (.int .i64 n5) w)
 (again2 [.int .i64 (IntKind.i64.wrap (n5+1))] w)) w)
 ((fun _=>True) w∧
 again2 [.int .i64 (IntKind.i64.wrap (n5+1))] w)) w) w) w
noncomputable def AgP(s0:ByteArray)(at0:Int)(R:Value→World→Prop)(w:World):Prop:=
 Lp (α:=Int) (fun n1=>[.int .i64 n1]) [.int .i64 1] (fun n1 again2 w=>
 br (decide (n1≤(4:Int)))
 (br (decide (IntKind.i64.wrap (at0+n1)≤(s0.size:Int)))
 (AcQ R again2 s0 at0 n1 w)
 (R (.int .i64 0) w))
 (R (.int .i64 0) w)) w
theorem Ai6(s0:ByteArray)(at0:Int)(K:Int→World→Prop)(w:World)(h:AgP s0 at0 (Rt (QC .i64) K) w):Ab7 s0 at0 K w:=
  fnc (A:=[(2,[(5,QC .i64)])]) (by kernel_rfl) Tryz.func157 Tryz.ntmps157 rfl h
noncomputable def Aiv(s0:ByteArray)(R:Value→World→Prop)(w:World):Prop:=
 NR s0 (fun(l1:Sl) w=>
 rn (convert 206 9 (l1.v)) (EB) (fun(s2:ByteArray) w=>
 R (.bool (s2.toList==s0.toList)) w) w) w
theorem AjJ(s0:ByteArray)(K:Bool→World→Prop)(w:World)(h:Aiv s0 (Rt (JS) K) w):AdF s0 K w:=
  fnc (A:=[]) (by kernel_rfl) Tryz.func211 Tryz.ntmps211 rfl h
noncomputable def Abn(again2:List Value→World→Prop)(x13:Int)(x14:Int)(x15:Int)(w:World):Prop:=
 again2 [.int .i64 (IntKind.i64.wrap (IntKind.i64.wrap (IntKind.i64.wrap (16 * x13)+IntKind.i64.wrap (IntKind.u8.wrap (x15 - 97)))+10)),.int .i64 (IntKind.i64.wrap (x14+1))] w
noncomputable def Abo(again2:List Value→World→Prop)(x25:Int)(x26:Int)(x27:Int)(w:World):Prop:=
 again2 [.int .i64 (IntKind.i64.wrap (IntKind.i64.wrap (IntKind.i64.wrap (16 * x25)+IntKind.i64.wrap (IntKind.u8.wrap (x27 - 65)))+10)),.int .i64 (IntKind.i64.wrap (x26+1))] w
noncomputable def CO(R:Value→World→Prop)(again2:List Value→World→Prop)(x19:Int)(x20:Int)(x21:Int)(w:World):Prop:=
 br (decide (x21≥(65:Int)))
 (br (decide (x21≤(70:Int)))
 (Abo again2 x19 x20 x21 w)
 (R (.int .i64 (-1)) w))
 (R (.int .i64 (-1)) w)
noncomputable def CN(R:Value→World→Prop)(again2:List Value→World→Prop)(x7:Int)(x8:Int)(x9:Int)(w:World):Prop:=
 br (decide (x9≥(97:Int)))
 (br (decide (x9≤(102:Int)))
 (Abn again2 x7 x8 x9 w)
 (CO R again2 x7 x8 x9 w))
 (CO R again2 x7 x8 x9 w)
noncomputable def Afp(t0:ByteArray)(o0:Int)(A:Int)(R:Value→World→Prop)(w:World):Prop:=
 br (decide (IntKind.i64.wrap (o0+A) > (t0.size:Int)))
 (R (.int .i64 (-1)) w)
 (Lp (α:=Int×Int) (fun x1=>[.int .i64 x1.1,.int .i64 x1.2]) [.int .i64 0,.int .i64 o0] (fun x1 again2 w=>
 br (decide (x1.2<IntKind.i64.wrap (o0+A)))
 (rn (Instr.index 9 (.string t0) (.int .i64 x1.2)) (QC .u8) (fun(i3:Int) w=>
 br (decide (i3≥(48:Int)))
 (br (decide (i3≤(57:Int)))
 (again2 [.int .i64 (IntKind.i64.wrap (IntKind.i64.wrap (16 * x1.1)+IntKind.i64.wrap (IntKind.u8.wrap (i3 - 48)))),.int .i64 (IntKind.i64.wrap (x1.2+1))] w)
 (CN R again2 x1.1 x1.2 i3 w))
 (CN R again2 x1.1 x1.2 i3 w)) w)
 (R (.int .i64 x1.1) w)) w)
theorem Ahz(t0:ByteArray)(o0:Int)(A:Int)(K:Int→World→Prop)(w:World)(h:Afp t0 o0 A (Rt (QC .i64) K) w):NS t0 o0 A K w:=
  fnc (A:=[(5,[(7,QC .i64),(8,QC .i64)])]) (by kernel_rfl) Tryz.func218 Tryz.ntmps218 rfl h
noncomputable def Afo(s0:ByteArray)(R:Value→World→Prop)(w:World):Prop:=
 bx (.stringIter s0 0) (fun it1 w=>
 Lp (α:=Sl) (fun l2=>[l2.v]) [.slice none 0 0] (fun l2 again3 w=>
 ∃ r4 q5 pos6,Value.pointer (some it1)=Value.pointer (some ⟨r4,0,none⟩)∧w.heap[r4]? = some (.stringIter q5 pos6)∧
 br (decide (pos6<q5.size))
 (∀ w',w' = { w with heap:=w.heap.setIfInBounds r4 (.stringIter q5 (pos6+(Utf8.decode q5 pos6).2)) }→(fun w=>
 bx (.cells #[.int .i32 ((Utf8.decode q5 pos6).1:Int)] 21) (fun a7 w=>
 rn (Builtin.append_ #[206,206] 206 #[l2.v,.slice (some a7) 1 1]) (hSl) (fun(l8:Sl) w=>
 again3 [l8.v] w) w) w) w')
 (R (l2.v) w)) w) w
theorem Ahy(s0:ByteArray)(K:Sl→World→Prop)(w:World)(h:Afo s0 (Rt (hSl) K) w):NR s0 K w:=
  fnc (A:=[(3,[(3,hSl)])]) (by kernel_rfl) Tryz.func219 Tryz.ntmps219 rfl h
noncomputable def LB(R:Value→World→Prop)(m5:Sl)(n6:Int)(w:World):Prop:=
 rn (Instr.sliceAt 22 (m5.v) none (some (.int .i64 n6)) none) (hSl) (fun(l7:Sl) w=>
 rn (Builtin.append_ #[22,22] 22 #[.slice none 0 0,l7.v]) (hSl) (fun(l8:Sl) w=>
 R (l8.v) w) w) w
noncomputable def Aiu(m0:Sl)(R:Value→World→Prop)(w:World):Prop:=
 Lp (α:=Int) (fun n1=>[.int .i64 n1]) [.int .i64 (m0.n:Int)] (fun n1 again2 w=>
 br (decide (n1 > (0:Int)))
 (nn m0.a fun a3=>
 0≤(IntKind.i64.wrap (n1 - 1))∧(IntKind.i64.wrap (n1 - 1))<((m0.n:Nat):Int)∧
 AbB (a3.add ((IntKind.i64.wrap (n1 - 1)).toNat * 1)) (fun(i4:Int) w=>
 br (i4==(0:Int))
 (again2 [.int .i64 (IntKind.i64.wrap (n1 - 1))] w)
 (LB R m0 n1 w)) w)
 (LB R m0 n1 w)) w
theorem AjI(m0:Sl)(K:Sl→World→Prop)(w:World)(h:Aiu m0 (Rt (hSl) K) w):GM m0 K w:=
  fnc (A:=[(2,[(3,QC .i64)])]) (by kernel_rfl) Tryz.func226 Tryz.ntmps226 rfl h
noncomputable def FV(R:Value→World→Prop)(A11:Addr)(r12:ByteArray)(a13:Bool)(w:World):Prop:=
 Lp (α:=Int) (fun y14=>[.int .i64 y14]) [.int .i64 0] (fun y14 again15 w=>
 br (decide (y14<(r12.size:Int)))
 (rn (Instr.index 9 (.string r12) (.int .i64 y14)) (QC .u8) (fun(i16:Int) w=>
 br (decide (i16<(48:Int)))
 (ZW A11 ⟨false,⟨none,0,0⟩⟩ (fun w=>
 YK A11 (fun r17=>
 R (.tuple #[r17.v,.int .i64 4]) w) w) w)
 (rn (Instr.index 9 (.string r12) (.int .i64 y14)) (QC .u8) (fun(i18:Int) w=>
 br (decide (i18 > (57:Int)))
 (ZW A11 ⟨false,⟨none,0,0⟩⟩ (fun w=>
 YK A11 (fun r19=>
 R (.tuple #[r19.v,.int .i64 4]) w) w) w)
 (again15 [.int .i64 (IntKind.i64.wrap (y14+1))] w)) w)) w)
 (Lp (α:=Sl×Int) (fun x20=>[x20.1.v,.int .i64 x20.2]) [.slice none 0 0,.int .i64 0] (fun x20 again21 w=>
 br (decide (x20.2<(r12.size:Int)))
 (dw (fun w=>
 rnS (fun _=>True) (Instr.index 9 (.string r12) (.int .i64 x20.2)) (QC .u8) fun(i22:Int)=>
 (bx (.cells #[.int .u32 10] 167) (fun a23 w=>
 (fun _=>True) w∧
 (GU x20.1 ⟨some a23,1,1⟩ (fun(l24:Sl) w=>
 (fun _=>True) w∧
 (fun _=>True) w∧
 bx (.cells #[.int .u32 (IntKind.u32.wrap (IntKind.u8.wrap (i22 - 48)))] 167) (fun a25 w=>
 (fun _=>True) w∧
 MJ l24 ⟨some a25,1,1⟩ (fun(l26:Sl) w=>
 GM l26 (fun(l27:Sl) w=>
 br (decide ((l27.n:Int) > (256:Int)))
 (ZW A11 ⟨false,⟨none,0,0⟩⟩ (fun w=>
 YK A11 (fun r28=>
 R (.tuple #[r28.v,.int .i64 3]) w) w) w)
 (again21 [l27.v,.int .i64 (IntKind.i64.wrap (x20.2+1))] w)) w) w) w) w)∧
 ((fun _=>True) w∧
 (GU x20.1 ⟨some a23,1,1⟩ (fun(l29:Sl) w=>
 (fun _=>True) w∧
 bx (.cells #[.int .u32 (IntKind.u32.wrap (IntKind.u8.wrap (i22 - 48)))] 167) (fun a30 w=>
 (fun _=>True) w∧
 MJ l29 ⟨some a30,1,1⟩ (fun(l31:Sl) w=>
 GM l31 (fun(l32:Sl) w=>
 br (decide ((l32.n:Int) > (256:Int)))
 (ZW A11 ⟨false,⟨none,0,0⟩⟩ (fun w=>
 YK A11 (fun r33=>
 R (.tuple #[r33.v,.int .i64 3]) w) w) w)
 (again21 [l32.v,.int .i64 (IntKind.i64.wrap (x20.2+1))] w)) w) w) w) w)∧
 (bx (.cells #[.int .u32 (IntKind.u32.wrap (IntKind.u8.wrap (i22 - 48)))] 167) (fun a34 w=>
 (fun _=>True) w∧
 GU x20.1 ⟨some a23,1,1⟩ (fun(l35:Sl) w=>
 (fun _=>True) w∧
 MJ l35 ⟨some a34,1,1⟩ (fun(l36:Sl) w=>
 GM l36 (fun(l37:Sl) w=>
 br (decide ((l37.n:Int) > (256:Int)))
 (ZW A11 ⟨false,⟨none,0,0⟩⟩ (fun w=>
 YK A11 (fun r38=>
 R (.tuple #[r38.v,.int .i64 3]) w) w) w)
 (again21 [l37.v,.int .i64 (IntKind.i64.wrap (x20.2+1))] w)) w) w) w) w))) w)∧
 ((fun _=>True) w∧
 (bx (.cells #[.int .u32 10] 167) (fun a39 w=>
 (fun _=>True) w∧
 (GU x20.1 ⟨some a39,1,1⟩ (fun(l40:Sl) w=>
 (fun _=>True) w∧
 bx (.cells #[.int .u32 (IntKind.u32.wrap (IntKind.u8.wrap (i22 - 48)))] 167) (fun a41 w=>
 (fun _=>True) w∧
 MJ l40 ⟨some a41,1,1⟩ (fun(l42:Sl) w=>
 GM l42 (fun(l43:Sl) w=>
 br (decide ((l43.n:Int) > (256:Int)))
 (ZW A11 ⟨false,⟨none,0,0⟩⟩ (fun w=>
 YK A11 (fun r44=>
 R (.tuple #[r44.v,.int .i64 3]) w) w) w)
 (again21 [l43.v,.int .i64 (IntKind.i64.wrap (x20.2+1))] w)) w) w) w) w)∧
 (bx (.cells #[.int .u32 (IntKind.u32.wrap (IntKind.u8.wrap (i22 - 48)))] 167) (fun a45 w=>
 (fun _=>True) w∧
 GU x20.1 ⟨some a39,1,1⟩ (fun(l46:Sl) w=>
 (fun _=>True) w∧
 MJ l46 ⟨some a45,1,1⟩ (fun(l47:Sl) w=>
 GM l47 (fun(l48:Sl) w=>
 br (decide ((l48.n:Int) > (256:Int)))
 (ZW A11 ⟨false,⟨none,0,0⟩⟩ (fun w=>
 YK A11 (fun r49=>
 R (.tuple #[r49.v,.int .i64 3]) w) w) w)
 (again21 [l48.v,.int .i64 (IntKind.i64.wrap (x20.2+1))] w)) w) w) w) w)) w)∧
 (bx (.cells #[.int .u32 (IntKind.u32.wrap (IntKind.u8.wrap (i22 - 48)))] 167) (fun a50 w=>
 (fun _=>True) w∧
 bx (.cells #[.int .u32 10] 167) (fun a51 w=>
 (fun _=>True) w∧
 GU x20.1 ⟨some a51,1,1⟩ (fun(l52:Sl) w=>
 (fun _=>True) w∧
 MJ l52 ⟨some a50,1,1⟩ (fun(l53:Sl) w=>
 GM l53 (fun(l54:Sl) w=>
 br (decide ((l54.n:Int) > (256:Int)))
 (ZW A11 ⟨false,⟨none,0,0⟩⟩ (fun w=>
 YK A11 (fun r55=>
 R (.tuple #[r55.v,.int .i64 3]) w) w) w)
 (again21 [l54.v,.int .i64 (IntKind.i64.wrap (x20.2+1))] w)) w) w) w) w) w))) w)
 (AdE a13 x20.1 (fun(x56:ZP) w=>
 ZW A11 x56 (fun w=>
 YK A11 (fun r57=>
 R (.tuple #[r57.v,.int .i64 0]) w) w) w) w)) w)) w
noncomputable def BM(R:Value→World→Prop)(A4:Addr)(r5:ByteArray)(a6:Bool)(w:World):Prop:=
 br ((r5.toList==(⟨#[]⟩:ByteArray).toList))
 (ZW A4 ⟨false,⟨none,0,0⟩⟩ (fun w=>
 YK A4 (fun r7=>
 R (.tuple #[r7.v,.int .i64 4]) w) w) w)
 (rn (Instr.index 9 (.string r5) (.int .i64 0)) (QC .u8) (fun(i8:Int) w=>
 br (i8==(48:Int))
 (br (a6)
 (ZW A4 ⟨false,⟨none,0,0⟩⟩ (fun w=>
 YK A4 (fun r9=>
 R (.tuple #[r9.v,.int .i64 4]) w) w) w)
 (br (decide ((r5.size:Int) > (1:Int)))
 (ZW A4 ⟨false,⟨none,0,0⟩⟩ (fun w=>
 YK A4 (fun r10=>
 R (.tuple #[r10.v,.int .i64 4]) w) w) w)
 (FV R A4 r5 a6 w)))
 (FV R A4 r5 a6 w)) w)
noncomputable def AgN(t0:ByteArray)(R:Value→World→Prop)(w:World):Prop:=
 bx (.cells #[.bool false,.slice none 0 0] 24) (fun A1 w=>
 br (!(t0.toList==(⟨#[]⟩:ByteArray).toList))
 (rn (Instr.index 9 (.string t0) (.int .i64 0)) (QC .u8) (fun(i2:Int) w=>
 br (i2==(45:Int))
 (rn (Instr.sliceAt 9 (.string t0) (some (.int .i64 1)) none none) (EB) (fun(s3:ByteArray) w=>
 BM R A1 s3 true w) w)
 (BM R A1 t0 false w)) w)
 (BM R A1 t0 false w)) w
theorem Ai4(t0:ByteArray)(K:MF→World→Prop)(w:World)(h:AgN t0 (Rt (YJ) K) w):Ab6 t0 K w:=
  fnc (A:=[(9,[(6,QC .i64)]),(15,[(7,hSl),(8,QC .i64)])]) (by kernel_rfl) Tryz.func247 Tryz.ntmps247 rfl h
noncomputable def Ais(neg:Bool)(m0:Sl)(R:Value→World→Prop)(w:World):Prop:=
 bx (.cells #[.bool false,.slice none 0 0] 24) (fun a1 w=>
 GM m0 (fun(l2:Sl) w=>
 br (neg)
 (ZW a1 ⟨decide ((l2.n:Int) > (0:Int)),l2⟩ (fun w=>
 YK a1 (fun r3=>
 R (r3.v) w) w) w)
 (ZW a1 ⟨false,l2⟩ (fun w=>
 YK a1 (fun r4=>
 R (r4.v) w) w) w)) w) w
theorem AjG(neg:Bool)(m0:Sl)(K:ZP→World→Prop)(w:World)(h:Ais neg m0 (Rt (EI) K) w):AdE neg m0 K w:=
  fnc (A:=[]) (by kernel_rfl) Tryz.func248 Tryz.ntmps248 rfl h
noncomputable def LA(again2:List Value→World→Prop)(out19:Sl)(c20:Int)(i21:Int)(w:World):Prop:=
 bx (.cells #[.int .u32 (IntKind.u32.wrap c20)] 167) (fun a22 w=>
 rn (Builtin.append_ #[22,22] 22 #[out19.v,.slice (some a22) 1 1]) (hSl) (fun(l23:Sl) w=>
 bin .shr 198 (.int .u64 c20) (.int .u64 32) (QC .u64) (fun(i24:Int) w=>
 again2 [l23.v,.int .u64 i24,.int .i64 (IntKind.i64.wrap (i21+1))] w) w) w) w
noncomputable def TU(again2:List Value→World→Prop)(b11:Sl)(out12:Sl)(c13:Int)(i14:Int)(w:World):Prop:=
 br (decide (i14<(b11.n:Int)))
 (nn b11.a fun a15=>
 0≤i14∧i14<((b11.n:Nat):Int)∧
 AbB (a15.add (i14.toNat * 1)) (fun(i16:Int) w=>
 LA again2 out12 (IntKind.u64.wrap (c13+IntKind.u64.wrap i16)) i14 w) w)
 (LA again2 out12 c13 i14 w)
noncomputable def TT(again2:List Value→World→Prop)(a3:Sl)(b4:Sl)(out5:Sl)(c6:Int)(i7:Int)(w:World):Prop:=
 br (decide (i7<(a3.n:Int)))
 (nn a3.a fun a8=>
 0≤i7∧i7<((a3.n:Nat):Int)∧
 AbB (a8.add (i7.toNat * 1)) (fun(i9:Int) w=>
 TU again2 b4 out5 (IntKind.u64.wrap (c6+IntKind.u64.wrap i9)) i7 w) w)
 (TU again2 b4 out5 c6 i7 w)
noncomputable def AdR(R:Value→World→Prop)(out25:Sl)(c26:Int)(w:World):Prop:=
 bx (.cells #[.int .u32 (IntKind.u32.wrap c26)] 167) (fun a27 w=>
 rn (Builtin.append_ #[22,22] 22 #[out25.v,.slice (some a27) 1 1]) (hSl) (fun(l28:Sl) w=>
 R (l28.v) w) w) w
noncomputable def Ait(a0:Sl)(b0:Sl)(R:Value→World→Prop)(w:World):Prop:=
 Lp (α:=Sl×Int×Int) (fun x1=>[x1.1.v,.int .u64 x1.2.1,.int .i64 x1.2.2]) [.slice none 0 0,.int .u64 0,.int .i64 0] (fun x1 again2 w=>
 br (decide (x1.2.2<(a0.n:Int)))
 (TT again2 a0 b0 x1.1 x1.2.1 x1.2.2 w)
 (br (decide (x1.2.2<(b0.n:Int)))
 (TT again2 a0 b0 x1.1 x1.2.1 x1.2.2 w)
 (AdR R x1.1 x1.2.1 w))) w
theorem AjH(a0:Sl)(b0:Sl)(K:Sl→World→Prop)(w:World)(h:Ait a0 b0 (Rt (hSl) K) w):MJ a0 b0 K w:=
  fnc (A:=[(4,[(5,hSl),(6,QC .u64),(7,QC .i64)])]) (by kernel_rfl) Tryz.func256 Tryz.ntmps256 rfl h
noncomputable def AgO(t0:Sl)(o0:Sl)(R:Value→World→Prop)(w:World):Prop:=
 rn (Instr.makeSlice 22 (.int .i64 (IntKind.i64.wrap ((t0.n:Int)+(o0.n:Int)))) (.int .i64 (IntKind.i64.wrap ((t0.n:Int)+(o0.n:Int))))) (hSl) (fun(l1:Sl) w=>
 Lp (α:=Int) (fun y2=>[.int .i64 y2]) [.int .i64 0] (fun y2 again3 w=>
 br (decide (y2<(t0.n:Int)))
 (Lp (α:=Int×Int) (fun x4=>[.int .u64 x4.1,.int .i64 x4.2]) [.int .u64 0,.int .i64 0] (fun x4 again5 w=>
 br (decide (x4.2<(o0.n:Int)))
 (dw (fun w=>
 ∃ S6:World→Prop,S6 w∧
 nn t0.a fun a7=>
 0≤y2∧y2<((t0.n:Nat):Int)∧
 Acr S6 (a7.add (y2.toNat * 1)) fun(i8:Int)=>
 nn o0.a fun a9=>
 0≤x4.2∧x4.2<((o0.n:Nat):Int)∧
 Acr S6 (a9.add (x4.2.toNat * 1)) fun(i10:Int)=>
 nn l1.a fun a11=>
 0≤(IntKind.i64.wrap (y2+x4.2))∧(IntKind.i64.wrap (y2+x4.2))<((l1.n:Nat):Int)∧
 Acr S6 (a11.add ((IntKind.i64.wrap (y2+x4.2)).toNat * 1)) fun(i12:Int)=>
 (S6 w∧
 (S6 w∧
 S6 w∧
 nn l1.a fun a13=>
 0≤(IntKind.i64.wrap (y2+x4.2))∧(IntKind.i64.wrap (y2+x4.2))<((l1.n:Nat):Int)∧
 OC (a13.add ((IntKind.i64.wrap (y2+x4.2)).toNat * 1)) (IntKind.u32.wrap (IntKind.u64.wrap (IntKind.u64.wrap (x4.1+IntKind.u64.wrap (IntKind.u64.wrap i8 * IntKind.u64.wrap i10))+IntKind.u64.wrap i12))) (fun w=>
 bin .shr 198 (.int .u64 (IntKind.u64.wrap (IntKind.u64.wrap (x4.1+IntKind.u64.wrap (IntKind.u64.wrap i8 * IntKind.u64.wrap i10))+IntKind.u64.wrap i12))) (.int .u64 32) (QC .u64) (fun(i14:Int) w=>
 again5 [.int .u64 i14,.int .i64 (IntKind.i64.wrap (x4.2+1))] w) w) w)∧
 (S6 w∧
 S6 w∧
 nn l1.a fun a15=>
 0≤(IntKind.i64.wrap (y2+x4.2))∧(IntKind.i64.wrap (y2+x4.2))<((l1.n:Nat):Int)∧
 OC (a15.add ((IntKind.i64.wrap (y2+x4.2)).toNat * 1)) (IntKind.u32.wrap (IntKind.u64.wrap (IntKind.u64.wrap (x4.1+IntKind.u64.wrap (IntKind.u64.wrap i8 * IntKind.u64.wrap i10))+IntKind.u64.wrap i12))) (fun w=>
 bin .shr 198 (.int .u64 (IntKind.u64.wrap (IntKind.u64.wrap (x4.1+IntKind.u64.wrap (IntKind.u64.wrap i8 * IntKind.u64.wrap i10))+IntKind.u64.wrap i12))) (.int .u64 32) (QC .u64) (fun(i16:Int) w=>
 again5 [.int .u64 i16,.int .i64 (IntKind.i64.wrap (x4.2+1))] w) w) w))∧
 (S6 w∧
 (S6 w∧
 S6 w∧
 nn l1.a fun a17=>
 0≤(IntKind.i64.wrap (y2+x4.2))∧(IntKind.i64.wrap (y2+x4.2))<((l1.n:Nat):Int)∧
 OC (a17.add ((IntKind.i64.wrap (y2+x4.2)).toNat * 1)) (IntKind.u32.wrap (IntKind.u64.wrap (IntKind.u64.wrap (x4.1+IntKind.u64.wrap (IntKind.u64.wrap i8 * IntKind.u64.wrap i10))+IntKind.u64.wrap i12))) (fun w=>
 bin .shr 198 (.int .u64 (IntKind.u64.wrap (IntKind.u64.wrap (x4.1+IntKind.u64.wrap (IntKind.u64.wrap i8 * IntKind.u64.wrap i10))+IntKind.u64.wrap i12))) (.int .u64 32) (QC .u64) (fun(i18:Int) w=>
 again5 [.int .u64 i18,.int .i64 (IntKind.i64.wrap (x4.2+1))] w) w) w)∧
 (S6 w∧
 S6 w∧
 nn l1.a fun a19=>
 0≤(IntKind.i64.wrap (y2+x4.2))∧(IntKind.i64.wrap (y2+x4.2))<((l1.n:Nat):Int)∧
 OC (a19.add ((IntKind.i64.wrap (y2+x4.2)).toNat * 1)) (IntKind.u32.wrap (IntKind.u64.wrap (IntKind.u64.wrap (x4.1+IntKind.u64.wrap (IntKind.u64.wrap i8 * IntKind.u64.wrap i10))+IntKind.u64.wrap i12))) (fun w=>
 bin .shr 198 (.int .u64 (IntKind.u64.wrap (IntKind.u64.wrap (x4.1+IntKind.u64.wrap (IntKind.u64.wrap i8 * IntKind.u64.wrap i10))+IntKind.u64.wrap i12))) (.int .u64 32) (QC .u64) (fun(i20:Int) w=>
 again5 [.int .u64 i20,.int .i64 (IntKind.i64.wrap (x4.2+1))] w) w) w))∧
 (S6 w∧
 (S6 w∧
 S6 w∧
 nn l1.a fun a21=>
 0≤(IntKind.i64.wrap (y2+x4.2))∧(IntKind.i64.wrap (y2+x4.2))<((l1.n:Nat):Int)∧
 OC (a21.add ((IntKind.i64.wrap (y2+x4.2)).toNat * 1)) (IntKind.u32.wrap (IntKind.u64.wrap (IntKind.u64.wrap (x4.1+IntKind.u64.wrap (IntKind.u64.wrap i8 * IntKind.u64.wrap i10))+IntKind.u64.wrap i12))) (fun w=>
 bin .shr 198 (.int .u64 (IntKind.u64.wrap (IntKind.u64.wrap (x4.1+IntKind.u64.wrap (IntKind.u64.wrap i8 * IntKind.u64.wrap i10))+IntKind.u64.wrap i12))) (.int .u64 32) (QC .u64) (fun(i22:Int) w=>
 again5 [.int .u64 i22,.int .i64 (IntKind.i64.wrap (x4.2+1))] w) w) w)∧
 (S6 w∧
 S6 w∧
 nn l1.a fun a23=>
 0≤(IntKind.i64.wrap (y2+x4.2))∧(IntKind.i64.wrap (y2+x4.2))<((l1.n:Nat):Int)∧
 OC (a23.add ((IntKind.i64.wrap (y2+x4.2)).toNat * 1)) (IntKind.u32.wrap (IntKind.u64.wrap (IntKind.u64.wrap (x4.1+IntKind.u64.wrap (IntKind.u64.wrap i8 * IntKind.u64.wrap i10))+IntKind.u64.wrap i12))) (fun w=>
 bin .shr 198 (.int .u64 (IntKind.u64.wrap (IntKind.u64.wrap (x4.1+IntKind.u64.wrap (IntKind.u64.wrap i8 * IntKind.u64.wrap i10))+IntKind.u64.wrap i12))) (.int .u64 32) (QC .u64) (fun(i24:Int) w=>
 again5 [.int .u64 i24,.int .i64 (IntKind.i64.wrap (x4.2+1))] w) w) w))) w)
 (nn l1.a fun a25=>
 0≤(IntKind.i64.wrap (y2+(o0.n:Int)))∧(IntKind.i64.wrap (y2+(o0.n:Int)))<((l1.n:Nat):Int)∧
 OC (a25.add ((IntKind.i64.wrap (y2+(o0.n:Int))).toNat * 1)) (IntKind.u32.wrap x4.1) (fun w=>
 again3 [.int .i64 (IntKind.i64.wrap (y2+1))] w) w)) w)
 (R (l1.v) w)) w) w
theorem Ai5(t0:Sl)(o0:Sl)(K:Sl→World→Prop)(w:World)(h:AgO t0 o0 (Rt (hSl) K) w):GU t0 o0 K w:=
  fnc (A:=[(3,[(6,QC .i64)]),(7,[(7,QC .u64),(8,QC .i64)])]) (by kernel_rfl) Tryz.func257 Tryz.ntmps257 rfl h
end Go.Proofs.YtjiagmjfnbljjaaGreatDoor
end
