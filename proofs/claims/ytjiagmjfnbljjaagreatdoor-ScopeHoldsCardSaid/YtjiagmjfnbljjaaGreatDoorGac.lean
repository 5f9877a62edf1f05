/- Lemmas for the statement proved in the last of these texts: part 3 of 25. Conditions: none. -/
import Derived.Test.YtjiagmjfnbljjaaGreatDoorGab
section
namespace Go.Proofs.YtjiagmjfnbljjaaGreatDoor
open Go
set_option linter.unusedVariables false
set_option maxRecDepth 100000
noncomputable def AdN(src:Sl)(R:Value→World→Prop)(w:World):Prop:=
 bx (.cells #[.int .i64 0,.int .i64 0,.string (⟨#[]⟩:ByteArray),.bool false,.slice none 0 0,.slice none 0 0] 27) (fun a1 w=>
 bx (.cells #[.int .i64 0,.int .i64 0] 32) (fun a2 w=>
 TE src (fun(x3:XE) w=>
 bx (.cells #[.int .i64 0,.int .i64 0] 32) (fun f4 w=>
 ZO f4 x3.x1 (fun w=>
 JK f4 (fun(i5:Int) w=>
 br (i5 != (0:Int))
 (dw (fun w=>
 ∃ S6:World→Prop,S6 w∧
 FM S6 f4 fun(x7:QI)=>
 JC a1 ⟨0,0,(⟨#[]⟩:ByteArray),false,⟨none,0,0⟩,⟨none,0,0⟩⟩ (fun w=>
 S6 w∧
 ZO a2 x7 (fun w=>
 JG a1 (fun r8=>
 XS a2 (fun r9=>
 R (.tuple #[r8.v,r9.v]) w) w) w) w) w) w)
 (AaL x3.x0 (fun(x10:ZT) w=>
 JC a1 x10.x0 (fun w=>
 ZO a2 x10.x1 (fun w=>
 JG a1 (fun r11=>
 XS a2 (fun r12=>
 R (.tuple #[r11.v,r12.v]) w) w) w) w) w) w)) w) w) w) w) w) w
theorem Agy(src:Sl)(K:ZT→World→Prop)(w:World)(h:AdN src (Rt (ZQ) K) w):OX src K w:=
  fnc (A:=[]) (by kernel_rfl) Tryz.func13 Tryz.ntmps13 rfl h
noncomputable def HF(again6:List Value→World→Prop)(r17:Option Addr)(a18:Int)(x19:Bool)(w:World):Prop:=
 nn r17 fun a20=>
 JK (a20.add 3) (fun(i21:Int) w=>
 br (i21==(0:Int))
 (again6 [.int .i64 (IntKind.i64.wrap (a18+1)),.int .i64 0,.bool true] w)
 (again6 [.int .i64 (IntKind.i64.wrap (a18+1)),.int .i64 0,.bool x19] w)) w
noncomputable def ON(R:Value→World→Prop)(again6:List Value→World→Prop)(r33:Addr)(r34:Option Addr)(a35:Int)(y36:Int)(x37:Bool)(w:World):Prop:=
 nn r34 fun a38=>
 JK (a38.add 4) (fun(i39:Int) w=>
 br (i39 != (0:Int))
 (dw (fun w=>
 ∃ S40:World→Prop,S40 w∧
 nn r34 fun a41=>
 FM S40 (a41.add 4) fun(x42:QI)=>
 ZO r33 x42 (fun w=>
 XS r33 (fun r43=>
 R (.tuple #[.slice none 0 0,r43.v]) w) w) w) w)
 (again6 [.int .i64 a35,.int .i64 y36,.bool x37] w)) w
noncomputable def OM(R:Value→World→Prop)(again6:List Value→World→Prop)(r24:Addr)(r25:Option Addr)(a26:Int)(y27:Int)(x28:Bool)(w:World):Prop:=
 nn r25 fun a29=>
 JK (a29.add 4) (fun(i30:Int) w=>
 br (i30==(0:Int))
 (CZ r25 a26 (fun(i31:Int) w=>
 ON R again6 r24 r25 i31 y27 x28 w) w)
 (ON R again6 r24 r25 a26 y27 x28 w)) w
noncomputable def UW(R:Value→World→Prop)(t54:Sl)(r55:Addr)(r56:Option Addr)(w:World):Prop:=
 Lp (α:=Int) (fun x57=>[.int .i64 x57]) [.int .i64 1] (fun x57 again58 w=>
 nn r56 fun a59=>
 Aha (a59.add 2) (fun(l60:Sl) w=>
 br (decide (x57<(l60.n:Int)))
 (YL r56 8 (⟨#[]⟩:ByteArray) (t54.n:Int) (fun(x61:Unit) w=>
 again58 [.int .i64 (IntKind.i64.wrap (x57+1))] w) w)
 (YL r56 9 (⟨#[]⟩:ByteArray) (t54.n:Int) (fun(x62:Unit) w=>
 nn r56 fun a63=>
 FN (a63.add 1) (fun(l64:Sl) w=>
 ZO r55 ⟨0,0⟩ (fun w=>
 XS r55 (fun r65=>
 R (.tuple #[l64.v,r65.v]) w) w) w) w) w)) w) w
noncomputable def Aan(R:Value→World→Prop)(t50:Sl)(r51:Addr)(r52:Option Addr)(w:World):Prop:=
 YL r52 6 (⟨#[]⟩:ByteArray) (t50.n:Int) (fun(x53:Unit) w=>
 UW R t50 r51 r52 w) w
noncomputable def AdL(t0:Sl)(R:Value→World→Prop)(w:World):Prop:=
 bx (.cells #[.int .i64 0,.int .i64 0] 32) (fun r1 w=>
 br (decide ((t0.n:Int) > (65536:Int)))
 (ZO r1 ⟨101,65536⟩ (fun w=>
 XS r1 (fun r2=>
 R (.tuple #[.slice none 0 0,r2.v]) w) w) w)
 (bx (.cells #[.int .i64 0] 3) (fun a3 w=>
 bx (.cells #[t0.v,.slice none 0 0,.slice (some a3) 1 1,.int .i64 0,.int .i64 0,.int .i64 0] 127) (fun a4 w=>
 Lp (α:=Int×Int×Bool) (fun x5=>[.int .i64 x5.1,.int .i64 x5.2.1,.bool x5.2.2]) [.int .i64 0,.int .i64 0,.bool true] (fun x5 again6 w=>
 br (decide (x5.1<(t0.n:Int)))
 (nn t0.a fun a7=>
 0≤x5.1∧x5.1<((t0.n:Nat):Int)∧
 WL (a7.add (x5.1.toNat * 1)) (fun(i8:Int) w=>
 br (i8==(35:Int))
 (Lp (α:=Int) (fun a9=>[.int .i64 a9]) [.int .i64 x5.1] (fun a9 again10 w=>
 br (decide (a9<(t0.n:Int)))
 (nn t0.a fun a11=>
 0≤a9∧a9<((t0.n:Nat):Int)∧
 WL (a11.add (a9.toNat * 1)) (fun(i12:Int) w=>
 br (i12 != (10:Int))
 (again10 [.int .i64 (IntKind.i64.wrap (a9+1))] w)
 (again6 [.int .i64 a9,.int .i64 x5.2.1,.bool x5.2.2] w)) w)
 (again6 [.int .i64 a9,.int .i64 x5.2.1,.bool x5.2.2] w)) w)
 (br (i8==(32:Int))
 (again6 [.int .i64 (IntKind.i64.wrap (x5.1+1)),.int .i64 (IntKind.i64.wrap (x5.2.1+1)),.bool x5.2.2] w)
 (br (i8==(10:Int))
 (JK (a4.add 3) (fun(i13:Int) w=>
 br (i13==(0:Int))
 (br (!x5.2.2)
 (YL (some a4) 6 (⟨#[]⟩:ByteArray) x5.1 (fun(x14:Unit) w=>
 HF again6 (some a4) x5.1 x5.2.2 w) w)
 (HF again6 (some a4) x5.1 x5.2.2 w))
 (HF again6 (some a4) x5.1 x5.2.2 w)) w)
 (br (x5.2.2)
 (CY (some a4) x5.2.1 x5.1 (fun(x22:Unit) w=>
 OM R again6 r1 (some a4) x5.1 x5.2.1 false w) w)
 (OM R again6 r1 (some a4) x5.1 x5.2.1 x5.2.2 w))))) w)
 (FN (a4.add 1) (fun(l44:Sl) w=>
 br (decide ((l44.n:Int) > (0:Int)))
 (dw (fun w=>
 ∃ S45:World→Prop,S45 w∧
 EJ S45 (a4.add 1) fun(l46:Sl)=>
 EJ S45 (a4.add 1) fun(l47:Sl)=>
 nn l46.a fun a48=>
 0≤(IntKind.i64.wrap ((l47.n:Int) - 1))∧(IntKind.i64.wrap ((l47.n:Int) - 1))<((l46.n:Nat):Int)∧
 QG S45 (a48.add ((IntKind.i64.wrap ((l47.n:Int) - 1)).toNat * 3)) fun(i49:Int)=>
 br (i49 != (6:Int))
 (br (i49 != (7:Int))
 (br (i49 != (8:Int))
 (Aan R t0 r1 (some a4) w)
 (UW R t0 r1 (some a4) w))
 (UW R t0 r1 (some a4) w))
 (UW R t0 r1 (some a4) w)) w)
 (UW R t0 r1 (some a4) w)) w)) w) w) w)) w
theorem Agw(t0:Sl)(K:XE→World→Prop)(w:World)(h:AdL t0 (Rt (YD) K) w):TE t0 K w:=
  fnc (A:=[(7,[(5,QC .i64),(6,QC .i64),(7,JS)]),(10,[(5,QC .i64)]),(34,[(10,QC .i64)])]) (by kernel_rfl) Tryz.func34 Tryz.ntmps34 rfl h
noncomputable def Abk(again5:List Value→World→Prop)(s10:Option Addr)(l11:Sl)(w:World):Prop:=
 DY s10 (fun(x12:JA) w=>
 bx (.cells #[.int .i64 x12.Kind,.int .i64 x12.At,.string x12.Text,.bool x12.Num_Neg,x12.Num_Mag.v,x12.Kids.v] 27) (fun a13 w=>
 rn (Builtin.append_ #[25,25] 25 #[l11.v,.slice (some a13) 1 1]) (hSl) (fun(l14:Sl) w=>
 again5 [l14.v] w) w) w) w
noncomputable def CM(R:Value→World→Prop)(x27:Addr)(x28:Addr)(l29:Sl)(at30:Int)(w:World):Prop:=
 JI 2 at30 (⟨#[]⟩:ByteArray) l29 (fun(x31:JA) w=>
 bx (.cells #[.int .i64 x31.Kind,.int .i64 x31.At,.string x31.Text,.bool x31.Num_Neg,x31.Num_Mag.v,x31.Kids.v] 27) (fun a32 w=>
 JI 1 0 (⟨#[]⟩:ByteArray) ⟨some a32,1,1⟩ (fun(x33:JA) w=>
 bx (.cells #[.int .i64 0,.int .i64 0,.string (⟨#[]⟩:ByteArray),.bool false,.slice none 0 0,.slice none 0 0] 27) (fun m34 w=>
 JC m34 x33 (fun w=>
 JF m34 (fun(x35:JA) w=>
 Aai x35 300 (fun(x36:UT) w=>
 br (x36.x1)
 (JC x27 ⟨0,0,(⟨#[]⟩:ByteArray),false,⟨none,0,0⟩,⟨none,0,0⟩⟩ (fun w=>
 ZO x28 ⟨107,x36.x0⟩ (fun w=>
 JG x27 (fun r37=>
 XS x28 (fun r38=>
 R (.tuple #[r37.v,r38.v]) w) w) w) w) w)
 (JF m34 (fun(x39:JA) w=>
 JC x27 x39 (fun w=>
 ZO x28 ⟨0,0⟩ (fun w=>
 JG x27 (fun r40=>
 XS x28 (fun r41=>
 R (.tuple #[r40.v,r41.v]) w) w) w) w) w) w)) w) w) w) w) w) w) w
noncomputable def CL(R:Value→World→Prop)(x15:Addr)(x16:Addr)(s17:Option Addr)(l18:Sl)(w:World):Prop:=
 YM s17 (fun(b19:Bool) w=>
 br (b19)
 (dw (fun w=>
 ∃ S20:World→Prop,S20 w∧
 nn s17 fun a21=>
 FM S20 (a21.add 2) fun(x22:QI)=>
 JC x15 ⟨0,0,(⟨#[]⟩:ByteArray),false,⟨none,0,0⟩,⟨none,0,0⟩⟩ (fun w=>
 S20 w∧
 ZO x16 x22 (fun w=>
 JG x15 (fun r23=>
 XS x16 (fun r24=>
 R (.tuple #[r23.v,r24.v]) w) w) w) w) w) w)
 (br (decide ((l18.n:Int) > (0:Int)))
 (nn l18.a fun a25=>
 0≤(0:Int)∧(0:Int)<((l18.n:Nat):Int)∧
 JK (a25.add 1) (fun(i26:Int) w=>
 CM R x15 x16 l18 i26 w) w)
 (CM R x15 x16 l18 0 w))) w
noncomputable def Afm(tokens:Sl)(R:Value→World→Prop)(w:World):Prop:=
 bx (.cells #[.int .i64 0,.int .i64 0,.string (⟨#[]⟩:ByteArray),.bool false,.slice none 0 0,.slice none 0 0] 27) (fun a1 w=>
 bx (.cells #[.int .i64 0,.int .i64 0] 32) (fun a2 w=>
 bx (.cells #[tokens.v,.int .i64 0,.int .i64 0,.int .i64 0] 134) (fun a3 w=>
 Lp (α:=Sl) (fun l4=>[l4.v]) [.slice none 0 0] (fun l4 again5 w=>
 YM (some a3) (fun(b6:Bool) w=>
 br (!b6)
 (QW (some a3) (fun(x7:JN) w=>
 br (x7.Kind != (9:Int))
 (Abk again5 (some a3) l4 w)
 (CL R a1 a2 (some a3) l4 w)) w)
 (CL R a1 a2 (some a3) l4 w)) w) w) w) w) w
theorem Ahw(tokens:Sl)(K:ZT→World→Prop)(w:World)(h:Afm tokens (Rt (ZQ) K) w):AaL tokens K w:=
  fnc (A:=[(3,[(5,hSl)])]) (by kernel_rfl) Tryz.func35 Tryz.ntmps35 rfl h
noncomputable def Aao(s0:Option Addr)(kind:Int)(text:ByteArray)(at0:Int)(R:Value→World→Prop)(w:World):Prop:=
 nn s0 fun a1=>
 FN (a1.add 1) (fun(l2:Sl) w=>
 bx (.cells #[.int .i64 kind,.string text,.int .i64 at0] 131) (fun a3 w=>
 rn (Builtin.append_ #[84,84] 84 #[l2.v,.slice (some a3) 1 1]) (hSl) (fun(l4:Sl) w=>
 nn s0 fun a5=>
 AfQ (a5.add 1) l4 (fun w=>
 R (.tuple #[]) w) w) w) w) w
theorem Adw(s0:Option Addr)(kind:Int)(text:ByteArray)(at0:Int)(K:Unit→World→Prop)(w:World)(h:Aao s0 kind text at0 (Rt (QK) K) w):YL s0 kind text at0 K w:=
  fnc (A:=[]) (by kernel_rfl) Tryz.func73 Tryz.ntmps73 rfl h
noncomputable def RD(t0:Option Addr)(o0:Int)(A:Int)(R:Value→World→Prop)(w:World):Prop:=
 dw (fun w=>
 ∃ S1:World→Prop,S1 w∧
 nn t0 fun a2=>
 LK S1 (a2.add 2) fun(l3:Sl)=>
 nn t0 fun a4=>
 LK S1 (a4.add 2) fun(l5:Sl)=>
 nn l3.a fun a6=>
 0≤(IntKind.i64.wrap ((l5.n:Int) - 1))∧(IntKind.i64.wrap ((l5.n:Int) - 1))<((l3.n:Nat):Int)∧
 QG S1 (a6.add ((IntKind.i64.wrap ((l5.n:Int) - 1)).toNat * 1)) fun(i7:Int)=>
 br (decide (o0 > i7))
 (nn t0 fun a8=>
 Aha (a8.add 2) (fun(l9:Sl) w=>
 br (decide ((l9.n:Int) > (40:Int)))
 (VJ t0 107 A (fun(x10:Unit) w=>
 R (.tuple #[]) w) w)
 (nn t0 fun a11=>
 Aha (a11.add 2) (fun(l12:Sl) w=>
 bx (.cells #[.int .i64 o0] 3) (fun a13 w=>
 rn (Builtin.append_ #[89,89] 89 #[l12.v,.slice (some a13) 1 1]) (hSl) (fun(l14:Sl) w=>
 nn t0 fun a15=>
 Anc (a15.add 2) l14 (fun w=>
 YL t0 7 (⟨#[]⟩:ByteArray) A (fun(x16:Unit) w=>
 R (.tuple #[]) w) w) w) w) w) w)) w)
 (Lp (α:=Unit) (fun u17=>[]) [] (fun u17 again18 w=>
 dw (fun w=>
 ∃ S19:World→Prop,S19 w∧
 nn t0 fun a20=>
 LK S19 (a20.add 2) fun(l21:Sl)=>
 nn t0 fun a22=>
 LK S19 (a22.add 2) fun(l23:Sl)=>
 nn l21.a fun a24=>
 0≤(IntKind.i64.wrap ((l23.n:Int) - 1))∧(IntKind.i64.wrap ((l23.n:Int) - 1))<((l21.n:Nat):Int)∧
 QG S19 (a24.add ((IntKind.i64.wrap ((l23.n:Int) - 1)).toNat * 1)) fun(i25:Int)=>
 br (decide (o0<i25))
 (dw (fun w=>
 ∃ S26:World→Prop,S26 w∧
 nn t0 fun a27=>
 LK S26 (a27.add 2) fun(l28:Sl)=>
 nn t0 fun a29=>
 LK S26 (a29.add 2) fun(l30:Sl)=>
 rnS S26 (Instr.sliceAt 89 (l28.v) none (some (.int .i64 (IntKind.i64.wrap ((l30.n:Int) - 1)))) none) (hSl) fun(l31:Sl)=>
 nn t0 fun a32=>
 Anc (a32.add 2) l31 (fun w=>
 YL t0 8 (⟨#[]⟩:ByteArray) A (fun(x33:Unit) w=>
 again18 [] w) w) w) w)
 (dw (fun w=>
 ∃ S34:World→Prop,S34 w∧
 nn t0 fun a35=>
 LK S34 (a35.add 2) fun(l36:Sl)=>
 nn t0 fun a37=>
 LK S34 (a37.add 2) fun(l38:Sl)=>
 nn l36.a fun a39=>
 0≤(IntKind.i64.wrap ((l38.n:Int) - 1))∧(IntKind.i64.wrap ((l38.n:Int) - 1))<((l36.n:Nat):Int)∧
 QG S34 (a39.add ((IntKind.i64.wrap ((l38.n:Int) - 1)).toNat * 1)) fun(i40:Int)=>
 br (o0 != i40)
 (VJ t0 103 A (fun(x41:Unit) w=>
 R (.tuple #[]) w) w)
 (R (.tuple #[]) w)) w)) w) w)) w
theorem AbT(t0:Option Addr)(o0:Int)(A:Int)(K:Unit→World→Prop)(w:World)(h:RD t0 o0 A (Rt (QK) K) w):CY t0 o0 A K w:=
  fnc (A:=[(5,[])]) (by kernel_rfl) Tryz.func74 Tryz.ntmps74 rfl h
noncomputable def AM(R:Value→World→Prop)(t42:Option Addr)(o43:Int)(y44:Int)(x45:ByteArray)(w:World):Prop:=
 YL t42 3 x45 o43 (fun(x46:Unit) w=>
 R (.int .i64 y44) w) w
noncomputable def GY(R:Value→World→Prop)(t32:Option Addr)(o33:Int)(y34:Int)(x35:ByteArray)(x36:Bool)(w:World):Prop:=
 Lp (α:=Bool×Int) (fun x37=>[.bool x37.1,.int .i64 x37.2]) [.bool x36,.int .i64 0] (fun x37 again38 w=>
 br (decide (x37.2<(x35.size:Int)))
 (br (x37.1)
 (rn (Instr.index 9 (.string x35) (.int .i64 x37.2)) (QC .u8) (fun(i39:Int) w=>
 FG i39 (fun(b40:Bool) w=>
 again38 [.bool b40,.int .i64 (IntKind.i64.wrap (x37.2+1))] w) w) w)
 (again38 [.bool false,.int .i64 (IntKind.i64.wrap (x37.2+1))] w))
 (br (!x37.1)
 (VJ t32 105 o33 (fun(x41:Unit) w=>
 AM R t32 o33 y34 x35 w) w)
 (AM R t32 o33 y34 x35 w))) w
noncomputable def AN(R:Value→World→Prop)(t55:Option Addr)(o56:Int)(x57:ByteArray)(x58:Int)(w:World):Prop:=
 YL t55 4 x57 o56 (fun(x59:Unit) w=>
 R (.int .i64 (IntKind.i64.wrap (o56+x58))) w) w
noncomputable def AK(R:Value→World→Prop)(t47:Option Addr)(o48:Int)(w:World):Prop:=
 nn t47 fun a49=>
 CS a49 (fun(l50:Sl) w=>
 rn (Instr.sliceAt 42 (l50.v) (some (.int .i64 o48)) none none) (hSl) (fun(l51:Sl) w=>
 rn (convert 42 9 (l51.v)) (EB) (fun(s52:ByteArray) w=>
 KT s52 (fun(x53:UP) w=>
 br (x53.x2 != (0:Int))
 (VJ t47 104 o48 (fun(x54:Unit) w=>
 AN R t47 o48 x53.x0 x53.x1 w) w)
 (AN R t47 o48 x53.x0 x53.x1 w)) w) w) w) w
noncomputable def UL(R:Value→World→Prop)(t80:Option Addr)(o81:Int)(x82:ByteArray)(w:World):Prop:=
 YL t80 5 x82 o81 (fun(x83:Unit) w=>
 R (.int .i64 (IntKind.i64.wrap (o81+(x82.size:Int)))) w) w
noncomputable def AO(R:Value→World→Prop)(t74:Option Addr)(o75:Int)(x76:ByteArray)(w:World):Prop:=
 nn t74 fun a77=>
 JK (a77.add 3) (fun(i78:Int) w=>
 nn t74 fun a79=>
 YX (a79.add 3) (IntKind.i64.wrap (i78+1)) (fun w=>
 UL R t74 o75 x76 w) w) w
noncomputable def DA(R:Value→World→Prop)(t84:Option Addr)(o85:Int)(x86:ByteArray)(x87:Bool)(w:World):Prop:=
 br (x87)
 (nn t84 fun a88=>
 JK (a88.add 3) (fun(i89:Int) w=>
 br (decide (i89 > (0:Int)))
 (nn t84 fun a90=>
 JK (a90.add 3) (fun(i91:Int) w=>
 nn t84 fun a92=>
 YX (a92.add 3) (IntKind.i64.wrap (i91 - 1)) (fun w=>
 UL R t84 o85 x86 w) w) w)
 (UL R t84 o85 x86 w)) w)
 (UL R t84 o85 x86 w)
noncomputable def GZ(R:Value→World→Prop)(t66:Option Addr)(o67:Int)(x68:ByteArray)(x69:ByteArray)(x70:Bool)(w:World):Prop:=
 br (x70)
 (nn t66 fun a71=>
 JK (a71.add 3) (fun(i72:Int) w=>
 br (decide (i72≥(60:Int)))
 (VJ t66 107 o67 (fun(x73:Unit) w=>
 AO R t66 o67 x68 w) w)
 (AO R t66 o67 x68 w)) w)
 (br ((x69.toList==(⟨#[41]⟩:ByteArray).toList))
 (DA R t66 o67 x68 (x69.toList==(⟨#[41]⟩:ByteArray).toList) w)
 (br ((x69.toList==(⟨#[93]⟩:ByteArray).toList))
 (DA R t66 o67 x68 (x69.toList==(⟨#[93]⟩:ByteArray).toList) w)
 (DA R t66 o67 x68 (x69.toList==(⟨#[125]⟩:ByteArray).toList) w)))
noncomputable def KW(R:Value→World→Prop)(t60:Option Addr)(o61:Int)(w:World):Prop:=
 nn t60 fun a62=>
 CS a62 (fun(l63:Sl) w=>
 AbS l63 o61 (fun(s64:ByteArray) w=>
 br ((s64.toList==(⟨#[]⟩:ByteArray).toList))
 (VJ t60 102 o61 (fun(x65:Unit) w=>
 R (.int .i64 o61) w) w)
 (br ((s64.toList==(⟨#[40]⟩:ByteArray).toList))
 (GZ R t60 o61 s64 s64 (s64.toList==(⟨#[40]⟩:ByteArray).toList) w)
 (br ((s64.toList==(⟨#[91]⟩:ByteArray).toList))
 (GZ R t60 o61 s64 s64 (s64.toList==(⟨#[91]⟩:ByteArray).toList) w)
 (GZ R t60 o61 s64 s64 (s64.toList==(⟨#[123]⟩:ByteArray).toList) w)))) w) w
noncomputable def AL(R:Value→World→Prop)(t19:Option Addr)(o20:Int)(a21:Int)(y22:Int)(w:World):Prop:=
 nn t19 fun a23=>
 CS a23 (fun(l24:Sl) w=>
 rn (Instr.sliceAt 42 (l24.v) (some (.int .i64 o20)) (some (.int .i64 y22)) none) (hSl) (fun(l25:Sl) w=>
 rn (convert 42 9 (l25.v)) (EB) (fun(s26:ByteArray) w=>
 KS a21 (fun(b27:Bool) w=>
 br (b27)
 (SB s26 (fun(b28:Bool) w=>
 br (b28)
 (YL t19 2 s26 o20 (fun(x29:Unit) w=>
 R (.int .i64 y22) w) w)
 (YL t19 1 s26 o20 (fun(x30:Unit) w=>
 R (.int .i64 y22) w) w)) w)
 (FG a21 (fun(b31:Bool) w=>
 br (b31)
 (br (decide ((s26.size:Int)≤(1000:Int)))
 (br (a21 != (48:Int))
 (GY R t19 o20 y22 s26 true w)
 (GY R t19 o20 y22 s26 ((s26.size:Int)==(1:Int)) w))
 (GY R t19 o20 y22 s26 false w))
 (br (a21==(39:Int))
 (AK R t19 o20 w)
 (br (a21==(34:Int))
 (AK R t19 o20 w)
 (KW R t19 o20 w)))) w)) w) w) w) w
noncomputable def RF(t0:Option Addr)(o0:Int)(R:Value→World→Prop)(w:World):Prop:=
 nn t0 fun a1=>
 CS a1 (fun(l2:Sl) w=>
 nn l2.a fun a3=>
 0≤o0∧o0<((l2.n:Nat):Int)∧
 WL (a3.add (o0.toNat * 1)) (fun(i4:Int) w=>
 Lp (α:=Int) (fun y5=>[.int .i64 y5]) [.int .i64 o0] (fun y5 again6 w=>
 nn t0 fun a7=>
 CS a7 (fun(l8:Sl) w=>
 br (decide (y5<(l8.n:Int)))
 (nn t0 fun a9=>
 CS a9 (fun(l10:Sl) w=>
 nn l10.a fun a11=>
 0≤y5∧y5<((l10.n:Nat):Int)∧
 WL (a11.add (y5.toNat * 1)) (fun(i12:Int) w=>
 KS i12 (fun(b13:Bool) w=>
 br (b13)
 (again6 [.int .i64 (IntKind.i64.wrap (y5+1))] w)
 (nn t0 fun a14=>
 CS a14 (fun(l15:Sl) w=>
 nn l15.a fun a16=>
 0≤y5∧y5<((l15.n:Nat):Int)∧
 WL (a16.add (y5.toNat * 1)) (fun(i17:Int) w=>
 FG i17 (fun(b18:Bool) w=>
 br (b18)
 (again6 [.int .i64 (IntKind.i64.wrap (y5+1))] w)
 (AL R t0 o0 i4 y5 w)) w) w) w)) w) w) w)
 (AL R t0 o0 i4 y5 w)) w) w) w) w
theorem AbV(t0:Option Addr)(o0:Int)(K:Int→World→Prop)(w:World)(h:RF t0 o0 (Rt (QC .i64) K) w):CZ t0 o0 K w:=
  fnc (A:=[(3,[(6,QC .i64)]),(14,[(8,JS),(9,QC .i64)])]) (by kernel_rfl) Tryz.func75 Tryz.ntmps75 rfl h
noncomputable def Aaq(s0:Option Addr)(R:Value→World→Prop)(w:World):Prop:=
 nn s0 fun a1=>
 JK (a1.add 2) (fun(i2:Int) w=>
 R (.bool (i2 != (0:Int))) w) w
theorem Adz(s0:Option Addr)(K:Bool→World→Prop)(w:World)(h:Aaq s0 (Rt (JS) K) w):YM s0 K w:=
  fnc (A:=[]) (by kernel_rfl) Tryz.func76 Tryz.ntmps76 rfl h
noncomputable def Aas(s0:Option Addr)(R:Value→World→Prop)(w:World):Prop:=
 bx (.cells #[.int .i64 0,.string (⟨#[]⟩:ByteArray),.int .i64 0] 131) (fun a1 w=>
 dw (fun w=>
 ∃ S2:World→Prop,S2 w∧
 nn s0 fun a3=>
 QG S2 (a3.add 1) fun(i4:Int)=>
 nn s0 fun a5=>
 EJ S2 a5 fun(l6:Sl)=>
 br (decide (i4<(l6.n:Int)))
 (dw (fun w=>
 ∃ S7:World→Prop,S7 w∧
 nn s0 fun a8=>
 EJ S7 a8 fun(l9:Sl)=>
 nn s0 fun a10=>
 QG S7 (a10.add 1) fun(i11:Int)=>
 nn l9.a fun a12=>
 0≤i11∧i11<((l9.n:Nat):Int)∧
 AfG S7 (a12.add (i11.toNat * 3)) fun(x13:JN)=>
 XA a1 x13 (fun w=>
 LO a1 (fun r14=>
 R (r14.v) w) w) w) w)
 (nn s0 fun a15=>
 FN a15 (fun(l16:Sl) w=>
 br (decide ((l16.n:Int) > (0:Int)))
 (dw (fun w=>
 ∃ S17:World→Prop,S17 w∧
 nn s0 fun a18=>
 EJ S17 a18 fun(l19:Sl)=>
 nn s0 fun a20=>
 EJ S17 a20 fun(l21:Sl)=>
 nn l19.a fun a22=>
 0≤(IntKind.i64.wrap ((l21.n:Int) - 1))∧(IntKind.i64.wrap ((l21.n:Int) - 1))<((l19.n:Nat):Int)∧
 QG S17 ((a22.add ((IntKind.i64.wrap ((l21.n:Int) - 1)).toNat * 3)).add 2) fun(i23:Int)=>
 XA a1 ⟨9,(⟨#[]⟩:ByteArray),i23⟩ (fun w=>
 LO a1 (fun r24=>
 R (r24.v) w) w) w) w)
 (XA a1 ⟨9,(⟨#[]⟩:ByteArray),0⟩ (fun w=>
 LO a1 (fun r25=>
 R (r25.v) w) w) w)) w)) w) w
theorem AdB(s0:Option Addr)(K:JN→World→Prop)(w:World)(h:Aas s0 (Rt (VT) K) w):QW s0 K w:=
  fnc (A:=[]) (by kernel_rfl) Tryz.func77 Tryz.ntmps77 rfl h
noncomputable def OF(R:Value→World→Prop)(t45:Option Addr)(A46:Addr)(r47:Int)(x48:ByteArray)(x49:Addr)(w:World):Prop:=
 dw (fun w=>
 ∃ S50:World→Prop,S50 w∧
 QB S50 x49 fun(x51:JA)=>
 YP t45 (fun(x52:JA) w=>
 S50 w∧
 bx (.cells #[.int .i64 x51.Kind,.int .i64 x51.At,.string x51.Text,.bool x51.Num_Neg,x51.Num_Mag.v,x51.Kids.v,.int .i64 x52.Kind,.int .i64 x52.At,.string x52.Text,.bool x52.Num_Neg,x52.Num_Mag.v,x52.Kids.v] 27) (fun a53 w=>
 S50 w∧
 JI 20 r47 x48 ⟨some a53,2,2⟩ (fun(x54:JA) w=>
 JC A46 x54 (fun w=>
 JG A46 (fun r55=>
 R (r55.v) w) w) w) w) w) w) w
noncomputable def OG(R:Value→World→Prop)(t61:Option Addr)(A62:Addr)(r63:Int)(x64:Sl)(w:World):Prop:=
 HA t61 x64 (fun(l65:Sl) w=>
 JI 21 r63 (⟨#[]⟩:ByteArray) l65 (fun(x66:JA) w=>
 JC A62 x66 (fun w=>
 JG A62 (fun r67=>
 R (r67.v) w) w) w) w) w
noncomputable def TP(t0:Option Addr)(R:Value→World→Prop)(w:World):Prop:=
 bx (.cells #[.int .i64 0,.int .i64 0,.string (⟨#[]⟩:ByteArray),.bool false,.slice none 0 0,.slice none 0 0] 27) (fun A1 w=>
 QW t0 (fun(x2:JN) w=>
 JJ t0 2 (⟨#[105,102]⟩:ByteArray) (fun(b3:Bool) w=>
 br (b3)
 (MI t0 x2.At (fun(x4:JA) w=>
 JC A1 x4 (fun w=>
 JG A1 (fun r5=>
 R (r5.v) w) w) w) w)
 (JJ t0 2 (⟨#[119,104,105,108,101]⟩:ByteArray) (fun(b6:Bool) w=>
 br (b6)
 (QJ t0 (fun(x7:JA) w=>
 bx (.cells #[.int .i64 0,.int .i64 0,.string (⟨#[]⟩:ByteArray),.bool false,.slice none 0 0,.slice none 0 0] 27) (fun r8 w=>
 JC r8 x7 (fun w=>
 dw (fun w=>
 ∃ S9:World→Prop,S9 w∧
 QB S9 r8 fun(x10:JA)=>
 YP t0 (fun(x11:JA) w=>
 S9 w∧
 bx (.cells #[.int .i64 x10.Kind,.int .i64 x10.At,.string x10.Text,.bool x10.Num_Neg,x10.Num_Mag.v,x10.Kids.v,.int .i64 x11.Kind,.int .i64 x11.At,.string x11.Text,.bool x11.Num_Neg,x11.Num_Mag.v,x11.Kids.v] 27) (fun a12 w=>
 S9 w∧
 JI 16 x2.At (⟨#[]⟩:ByteArray) ⟨some a12,2,2⟩ (fun(x13:JA) w=>
 JC A1 x13 (fun w=>
 JG A1 (fun r14=>
 R (r14.v) w) w) w) w) w) w) w) w) w) w)
 (JJ t0 2 (⟨#[102,111,114]⟩:ByteArray) (fun(b15:Bool) w=>
 br (b15)
 (DR t0 (fun(x16:JA) w=>
 bx (.cells #[.int .i64 0,.int .i64 0,.string (⟨#[]⟩:ByteArray),.bool false,.slice none 0 0,.slice none 0 0] 27) (fun a17 w=>
 JC a17 x16 (fun w=>
 JU t0 2 (⟨#[105,110]⟩:ByteArray) (fun(x18:Unit) w=>
 XB t0 (fun(x19:JA) w=>
 bx (.cells #[.int .i64 0,.int .i64 0,.string (⟨#[]⟩:ByteArray),.bool false,.slice none 0 0,.slice none 0 0] 27) (fun y20 w=>
 JC y20 x19 (fun w=>
 dw (fun w=>
 ∃ S21:World→Prop,S21 w∧
 QB S21 a17 fun(x22:JA)=>
 QB S21 y20 fun(x23:JA)=>
 YP t0 (fun(x24:JA) w=>
 S21 w∧
 bx (.cells #[.int .i64 x22.Kind,.int .i64 x22.At,.string x22.Text,.bool x22.Num_Neg,x22.Num_Mag.v,x22.Kids.v,.int .i64 x23.Kind,.int .i64 x23.At,.string x23.Text,.bool x23.Num_Neg,x23.Num_Mag.v,x23.Kids.v,.int .i64 x24.Kind,.int .i64 x24.At,.string x24.Text,.bool x24.Num_Neg,x24.Num_Mag.v,x24.Kids.v] 27) (fun a25 w=>
 S21 w∧
 JI 17 x2.At (⟨#[]⟩:ByteArray) ⟨some a25,3,3⟩ (fun(x26:JA) w=>
 JC A1 x26 (fun w=>
 JG A1 (fun r27=>
 R (r27.v) w) w) w) w) w) w) w) w) w) w) w) w) w) w)
 (JJ t0 2 (⟨#[100,101,102]⟩:ByteArray) (fun(b28:Bool) w=>
 br (b28)
 (VC t0 (fun(s29:ByteArray) w=>
 JU t0 5 (⟨#[40]⟩:ByteArray) (fun(x30:Unit) w=>
 HB t0 (fun(l31:Sl) w=>
 JU t0 5 (⟨#[41]⟩:ByteArray) (fun(x32:Unit) w=>
 YP t0 (fun(x33:JA) w=>
 bx (.cells #[.int .i64 x33.Kind,.int .i64 x33.At,.string x33.Text,.bool x33.Num_Neg,x33.Num_Mag.v,x33.Kids.v] 27) (fun a34 w=>
 rn (Builtin.append_ #[25,25] 25 #[l31.v,.slice (some a34) 1 1]) (hSl) (fun(l35:Sl) w=>
 JI 18 x2.At s29 l35 (fun(x36:JA) w=>
 JC A1 x36 (fun w=>
 JG A1 (fun r37=>
 R (r37.v) w) w) w) w) w) w) w) w) w) w) w)
 (JJ t0 2 (⟨#[99,108,97,115,115]⟩:ByteArray) (fun(b38:Bool) w=>
 br (b38)
 (VC t0 (fun(s39:ByteArray) w=>
 DL x2.At (fun(x40:JA) w=>
 bx (.cells #[.int .i64 0,.int .i64 0,.string (⟨#[]⟩:ByteArray),.bool false,.slice none 0 0,.slice none 0 0] 27) (fun a41 w=>
 JC a41 x40 (fun w=>
 JJ t0 5 (⟨#[40]⟩:ByteArray) (fun(b42:Bool) w=>
 br (b42)
 (QJ t0 (fun(x43:JA) w=>
 JC a41 x43 (fun w=>
 JU t0 5 (⟨#[41]⟩:ByteArray) (fun(x44:Unit) w=>
 OF R t0 A1 x2.At s39 a41 w) w) w) w)
 (OF R t0 A1 x2.At s39 a41 w)) w) w) w) w) w)
 (JJ t0 2 (⟨#[116,114,121]⟩:ByteArray) (fun(b56:Bool) w=>
 br (b56)
 (YP t0 (fun(x57:JA) w=>
 bx (.cells #[.int .i64 x57.Kind,.int .i64 x57.At,.string x57.Text,.bool x57.Num_Neg,x57.Num_Mag.v,x57.Kids.v] 27) (fun a58 w=>
 XJ t0 (⟨#[101,120,99,101,112,116]⟩:ByteArray) (fun(b59:Bool) w=>
 br (!b59)
 (QZ t0 (fun(x60:Unit) w=>
 OG R t0 A1 x2.At ⟨some a58,1,1⟩ w) w)
 (OG R t0 A1 x2.At ⟨some a58,1,1⟩ w)) w) w) w)
 (HD t0 (fun(x68:JA) w=>
 bx (.cells #[.int .i64 0,.int .i64 0,.string (⟨#[]⟩:ByteArray),.bool false,.slice none 0 0,.slice none 0 0] 27) (fun a69 w=>
 JC a69 x68 (fun w=>
 UJ t0 6 (fun(x70:Unit) w=>
 JF a69 (fun(x71:JA) w=>
 JC A1 x71 (fun w=>
 JG A1 (fun r72=>
 R (r72.v) w) w) w) w) w) w) w) w)) w)) w)) w)) w)) w)) w) w) w
theorem Adf(t0:Option Addr)(K:JA→World→Prop)(w:World)(h:TP t0 (Rt (JQ) K) w):DY t0 K w:=
  fnc (A:=[]) (by kernel_rfl) Tryz.func78 Tryz.ntmps78 rfl h
noncomputable def SF(kind:Int)(at0:Int)(text:ByteArray)(kids:Sl)(R:Value→World→Prop)(w:World):Prop:=
 bx (.cells #[.int .i64 0,.int .i64 0,.string (⟨#[]⟩:ByteArray),.bool false,.slice none 0 0,.slice none 0 0] 27) (fun a1 w=>
 JC a1 ⟨kind,at0,text,false,⟨none,0,0⟩,kids⟩ (fun w=>
 JG a1 (fun r2=>
 R (r2.v) w) w) w) w
theorem PV(kind:Int)(at0:Int)(text:ByteArray)(kids:Sl)(K:JA→World→Prop)(w:World)(h:SF kind at0 text kids (Rt (JQ) K) w):JI kind at0 text kids K w:=
  fnc (A:=[]) (by kernel_rfl) Tryz.func79 Tryz.ntmps79 rfl h
noncomputable def AdO(n0:JA)(most:Int)(R:Value→World→Prop)(w:World):Prop:=
 bx (.cells n0.cells 27) (fun n1 w=>
 br (most==(0:Int))
 (JK (n1.add 1) (fun(i2:Int) w=>
 R (.tuple #[.int .i64 i2,.bool true]) w) w)
 (Lp (α:=Int) (fun i3=>[.int .i64 i3]) [.int .i64 0] (fun i3 again4 w=>
 JZ (n1.add 5) (fun(l5:Sl) w=>
 br (decide (i3<(l5.n:Int)))
 (JZ (n1.add 5) (fun(l6:Sl) w=>
 nn l6.a fun a7=>
 0≤i3∧i3<((l6.n:Nat):Int)∧
 JF (a7.add (i3.toNat * 6)) (fun(x8:JA) w=>
 Aai x8 (IntKind.i64.wrap (most - 1)) (fun(x9:UT) w=>
 br (x9.x1)
 (R (.tuple #[.int .i64 x9.x0,.bool true]) w)
 (again4 [.int .i64 (IntKind.i64.wrap (i3+1))] w)) w) w) w)
 (R (.tuple #[.int .i64 0,.bool false]) w)) w) w)) w
theorem Adx(n0:JA)(most:Int)(K:UT→World→Prop)(w:World)(h:AdO n0 most (Rt (AX) K) w):Aai n0 most K w:=
  fnc (A:=[(4,[(6,QC .i64)])]) (by kernel_rfl) Tryz.func80 Tryz.ntmps80 rfl h
noncomputable def RE(s0:Option Addr)(code:Int)(at0:Int)(R:Value→World→Prop)(w:World):Prop:=
 nn s0 fun a1=>
 ZO (a1.add 4) ⟨code,at0⟩ (fun w=>
 R (.tuple #[]) w) w
theorem AbU(s0:Option Addr)(code:Int)(at0:Int)(K:Unit→World→Prop)(w:World)(h:RE s0 code at0 (Rt (QK) K) w):VJ s0 code at0 K w:=
  fnc (A:=[]) (by kernel_rfl) Tryz.func97 Tryz.ntmps97 rfl h
noncomputable def AdM(c0:Int)(R:Value→World→Prop)(w:World):Prop:=
 br (decide (c0≥(97:Int)))
 (br (decide (c0≤(122:Int)))
 (R (.bool true) w)
 (br (decide (c0≥(65:Int)))
 (br (decide (c0≤(90:Int)))
 (R (.bool true) w)
 (R (.bool (c0==(95:Int))) w))
 (R (.bool (c0==(95:Int))) w)))
 (br (decide (c0≥(65:Int)))
 (br (decide (c0≤(90:Int)))
 (R (.bool true) w)
 (R (.bool (c0==(95:Int))) w))
 (R (.bool (c0==(95:Int))) w))
theorem Agx(c0:Int)(K:Bool→World→Prop)(w:World)(h:AdM c0 (Rt (JS) K) w):KS c0 K w:=
  fnc (A:=[]) (by kernel_rfl) Tryz.func98 Tryz.ntmps98 rfl h
noncomputable def Afl(c0:Int)(R:Value→World→Prop)(w:World):Prop:=
 br (decide (c0≥(48:Int)))
 (R (.bool (decide (c0≤(57:Int)))) w)
 (R (.bool false) w)
theorem Ahv(c0:Int)(K:Bool→World→Prop)(w:World)(h:Afl c0 (Rt (JS) K) w):FG c0 K w:=
  fnc (A:=[]) (by kernel_rfl) Tryz.func99 Tryz.ntmps99 rfl h
noncomputable def AgL(s0:ByteArray)(R:Value→World→Prop)(w:World):Prop:=
 bx (.cells #[.string (⟨#[97,110,100]⟩:ByteArray),.string (⟨#[97,115]⟩:ByteArray),.string (⟨#[98,114,101,97,107]⟩:ByteArray),.string (⟨#[99,108,97,115,115]⟩:ByteArray),.string (⟨#[99,111,110,116,105,110,117,101]⟩:ByteArray),.string (⟨#[100,101,102]⟩:ByteArray),.string (⟨#[100,101,108]⟩:ByteArray),.string (⟨#[101,108,105,102]⟩:ByteArray),.string (⟨#[101,108,115,101]⟩:ByteArray),.string (⟨#[101,120,99,101,112,116]⟩:ByteArray),.string (⟨#[70,97,108,115,101]⟩:ByteArray),.string (⟨#[102,111,114]⟩:ByteArray),.string (⟨#[103,108,111,98,97,108]⟩:ByteArray),.string (⟨#[105,102]⟩:ByteArray),.string (⟨#[105,110]⟩:ByteArray),.string (⟨#[105,115]⟩:ByteArray),.string (⟨#[78,111,110,101]⟩:ByteArray),.string (⟨#[110,111,110,108,111,99,97,108]⟩:ByteArray),.string (⟨#[110,111,116]⟩:ByteArray),.string (⟨#[111,114]⟩:ByteArray),.string (⟨#[112,97,115,115]⟩:ByteArray),.string (⟨#[114,97,105,115,101]⟩:ByteArray),.string (⟨#[114,101,116,117,114,110]⟩:ByteArray),.string (⟨#[84,114,117,101]⟩:ByteArray),.string (⟨#[116,114,121]⟩:ByteArray),.string (⟨#[119,104,105,108,101]⟩:ByteArray)] 9) (fun a1 w=>
 Lp (α:=Int) (fun i2=>[.int .i64 i2]) [.int .i64 0] (fun i2 again3 w=>
 br (decide (i2<(26:Int)))
 (0≤i2∧i2<((26:Nat):Int)∧
 QO (a1.add (i2.toNat * 1)) (fun(s4:ByteArray) w=>
 br ((s4.toList==s0.toList))
 (R (.bool true) w)
 (again3 [.int .i64 (IntKind.i64.wrap (i2+1))] w)) w)
 (R (.bool false) w)) w) w
theorem Ai2(s0:ByteArray)(K:Bool→World→Prop)(w:World)(h:AgL s0 (Rt (JS) K) w):SB s0 K w:=
  fnc (A:=[(3,[(4,QC .i64)])]) (by kernel_rfl) Tryz.func100 Tryz.ntmps100 rfl h
noncomputable def AgK(src:Sl)(at0:Int)(R:Value→World→Prop)(w:World):Prop:=
 bx (.cells #[.string (⟨#[61,61]⟩:ByteArray),.string (⟨#[33,61]⟩:ByteArray),.string (⟨#[60,61]⟩:ByteArray),.string (⟨#[62,61]⟩:ByteArray),.string (⟨#[43,61]⟩:ByteArray),.string (⟨#[45,61]⟩:ByteArray),.string (⟨#[42,61]⟩:ByteArray),.string (⟨#[42,42]⟩:ByteArray),.string (⟨#[47,47,61]⟩:ByteArray),.string (⟨#[47,47]⟩:ByteArray),.string (⟨#[37,61]⟩:ByteArray),.string (⟨#[38,61]⟩:ByteArray),.string (⟨#[124,61]⟩:ByteArray),.string (⟨#[94,61]⟩:ByteArray),.string (⟨#[40]⟩:ByteArray),.string (⟨#[41]⟩:ByteArray),.string (⟨#[91]⟩:ByteArray),.string (⟨#[93]⟩:ByteArray),.string (⟨#[123]⟩:ByteArray),.string (⟨#[125]⟩:ByteArray),.string (⟨#[44]⟩:ByteArray),.string (⟨#[58]⟩:ByteArray),.string (⟨#[46]⟩:ByteArray),.string (⟨#[61]⟩:ByteArray),.string (⟨#[60]⟩:ByteArray),.string (⟨#[62]⟩:ByteArray),.string (⟨#[43]⟩:ByteArray),.string (⟨#[45]⟩:ByteArray),.string (⟨#[42]⟩:ByteArray),.string (⟨#[37]⟩:ByteArray),.string (⟨#[38]⟩:ByteArray),.string (⟨#[124]⟩:ByteArray),.string (⟨#[94]⟩:ByteArray)] 9) (fun a1 w=>
 Lp (α:=Int) (fun i2=>[.int .i64 i2]) [.int .i64 0] (fun i2 again3 w=>
 br (decide (i2<(33:Int)))
 (dw (fun w=>
 ∃ S4:World→Prop,S4 w∧
 0≤i2∧i2<((33:Nat):Int)∧
 YY S4 (a1.add (i2.toNat * 1)) fun(s5:ByteArray)=>
 br (decide (IntKind.i64.wrap (at0+(s5.size:Int))≤(src.n:Int)))
 (0≤i2∧i2<((33:Nat):Int)∧
 YY S4 (a1.add (i2.toNat * 1)) fun(s6:ByteArray)=>
 rnS S4 (Instr.sliceAt 42 (src.v) (some (.int .i64 at0)) (some (.int .i64 (IntKind.i64.wrap (at0+(s6.size:Int))))) none) (hSl) fun(l7:Sl)=>
 0≤i2∧i2<((33:Nat):Int)∧
 YY S4 (a1.add (i2.toNat * 1)) fun(s8:ByteArray)=>
 rn (convert 42 9 (l7.v)) (EB) (fun(s9:ByteArray) w=>
 S4 w∧
 br ((s9.toList==s8.toList))
 (0≤i2∧i2<((33:Nat):Int)∧
 QO (a1.add (i2.toNat * 1)) (fun(s10:ByteArray) w=>
 R (.string s10) w) w)
 (again3 [.int .i64 (IntKind.i64.wrap (i2+1))] w)) w)
 (S4 w∧
 again3 [.int .i64 (IntKind.i64.wrap (i2+1))] w)) w)
 (R (.string (⟨#[]⟩:ByteArray)) w)) w) w
theorem Ai1(src:Sl)(at0:Int)(K:ByteArray→World→Prop)(w:World)(h:AgK src at0 (Rt (EB) K) w):AbS src at0 K w:=
  fnc (A:=[(3,[(6,QC .i64)])]) (by kernel_rfl) Tryz.func102 Tryz.ntmps102 rfl h
noncomputable def TQ(s0:Option Addr)(kind:Int)(text:ByteArray)(R:Value→World→Prop)(w:World):Prop:=
 IF s0 kind text (fun(b1:Bool) w=>
 br (!b1)
 (R (.bool false) w)
 (nn s0 fun a2=>
 JK (a2.add 1) (fun(i3:Int) w=>
 nn s0 fun a4=>
 YX (a4.add 1) (IntKind.i64.wrap (i3+1)) (fun w=>
 R (.bool true) w) w) w)) w
theorem Adg(s0:Option Addr)(kind:Int)(text:ByteArray)(K:Bool→World→Prop)(w:World)(h:TQ s0 kind text (Rt (JS) K) w):JJ s0 kind text K w:=
  fnc (A:=[]) (by kernel_rfl) Tryz.func103 Tryz.ntmps103 rfl h
noncomputable def MP(R:Value→World→Prop)(at15:Int)(x16:Addr)(e17:Addr)(b18:Addr)(other19:Addr)(w:World):Prop:=
 JF e17 (fun(x20:JA) w=>
 JF b18 (fun(x21:JA) w=>
 JF other19 (fun(x22:JA) w=>
 bx (.cells #[.int .i64 x20.Kind,.int .i64 x20.At,.string x20.Text,.bool x20.Num_Neg,x20.Num_Mag.v,x20.Kids.v,.int .i64 x21.Kind,.int .i64 x21.At,.string x21.Text,.bool x21.Num_Neg,x21.Num_Mag.v,x21.Kids.v,.int .i64 x22.Kind,.int .i64 x22.At,.string x22.Text,.bool x22.Num_Neg,x22.Num_Mag.v,x22.Kids.v] 27) (fun a23 w=>
 JI 15 at15 (⟨#[]⟩:ByteArray) ⟨some a23,3,3⟩ (fun(x24:JA) w=>
 JC x16 x24 (fun w=>
 JG x16 (fun r25=>
 R (r25.v) w) w) w) w) w) w) w) w
noncomputable def PD(s0:Option Addr)(at0:Int)(R:Value→World→Prop)(w:World):Prop:=
 bx (.cells #[.int .i64 0,.int .i64 0,.string (⟨#[]⟩:ByteArray),.bool false,.slice none 0 0,.slice none 0 0] 27) (fun a1 w=>
 QJ s0 (fun(x2:JA) w=>
 bx (.cells #[.int .i64 0,.int .i64 0,.string (⟨#[]⟩:ByteArray),.bool false,.slice none 0 0,.slice none 0 0] 27) (fun e3 w=>
 JC e3 x2 (fun w=>
 YP s0 (fun(x4:JA) w=>
 bx (.cells #[.int .i64 0,.int .i64 0,.string (⟨#[]⟩:ByteArray),.bool false,.slice none 0 0,.slice none 0 0] 27) (fun b5 w=>
 JC b5 x4 (fun w=>
 DL at0 (fun(x6:JA) w=>
 bx (.cells #[.int .i64 0,.int .i64 0,.string (⟨#[]⟩:ByteArray),.bool false,.slice none 0 0,.slice none 0 0] 27) (fun other7 w=>
 JC other7 x6 (fun w=>
 QW s0 (fun(x8:JN) w=>
 JJ s0 2 (⟨#[101,108,105,102]⟩:ByteArray) (fun(b9:Bool) w=>
 br (b9)
 (MI s0 x8.At (fun(x10:JA) w=>
 bx (.cells #[.int .i64 0,.int .i64 0,.string (⟨#[]⟩:ByteArray),.bool false,.slice none 0 0,.slice none 0 0] 27) (fun x11 w=>
 JC x11 x10 (fun w=>
 JF x11 (fun(x12:JA) w=>
 bx (.cells #[.int .i64 x12.Kind,.int .i64 x12.At,.string x12.Text,.bool x12.Num_Neg,x12.Num_Mag.v,x12.Kids.v] 27) (fun a13 w=>
 JI 2 x8.At (⟨#[]⟩:ByteArray) ⟨some a13,1,1⟩ (fun(x14:JA) w=>
 JC other7 x14 (fun w=>
 MP R at0 a1 e3 b5 other7 w) w) w) w) w) w) w) w)
 (JJ s0 2 (⟨#[101,108,115,101]⟩:ByteArray) (fun(b26:Bool) w=>
 br (b26)
 (YP s0 (fun(x27:JA) w=>
 JC other7 x27 (fun w=>
 MP R at0 a1 e3 b5 other7 w) w) w)
 (MP R at0 a1 e3 b5 other7 w)) w)) w) w) w) w) w) w) w) w) w) w) w) w
theorem Abc(s0:Option Addr)(at0:Int)(K:JA→World→Prop)(w:World)(h:PD s0 at0 (Rt (JQ) K) w):MI s0 at0 K w:=
  fnc (A:=[]) (by kernel_rfl) Tryz.func104 Tryz.ntmps104 rfl h
noncomputable def TJ(s0:Option Addr)(R:Value→World→Prop)(w:World):Prop:=
 bx (.cells #[.int .i64 0,.int .i64 0,.string (⟨#[]⟩:ByteArray),.bool false,.slice none 0 0,.slice none 0 0] 27) (fun a1 w=>
 DX s0 (fun(x2:JA) w=>
 bx (.cells #[.int .i64 0,.int .i64 0,.string (⟨#[]⟩:ByteArray),.bool false,.slice none 0 0,.slice none 0 0] 27) (fun e3 w=>
 JC e3 x2 (fun w=>
 JJ s0 2 (⟨#[105,102]⟩:ByteArray) (fun(b4:Bool) w=>
 br (b4)
 (DX s0 (fun(x5:JA) w=>
 bx (.cells #[.int .i64 0,.int .i64 0,.string (⟨#[]⟩:ByteArray),.bool false,.slice none 0 0,.slice none 0 0] 27) (fun t6 w=>
 JC t6 x5 (fun w=>
 JU s0 2 (⟨#[101,108,115,101]⟩:ByteArray) (fun(x7:Unit) w=>
 dw (fun w=>
 ∃ S8:World→Prop,S8 w∧
 QG S8 (e3.add 1) fun(i9:Int)=>
 QB S8 e3 fun(x10:JA)=>
 QB S8 t6 fun(x11:JA)=>
 QJ s0 (fun(x12:JA) w=>
 S8 w∧
 bx (.cells #[.int .i64 x10.Kind,.int .i64 x10.At,.string x10.Text,.bool x10.Num_Neg,x10.Num_Mag.v,x10.Kids.v,.int .i64 x11.Kind,.int .i64 x11.At,.string x11.Text,.bool x11.Num_Neg,x11.Num_Mag.v,x11.Kids.v,.int .i64 x12.Kind,.int .i64 x12.At,.string x12.Text,.bool x12.Num_Neg,x12.Num_Mag.v,x12.Kids.v] 27) (fun a13 w=>
 S8 w∧
 JI 44 i9 (⟨#[]⟩:ByteArray) ⟨some a13,3,3⟩ (fun(x14:JA) w=>
 JC a1 x14 (fun w=>
 JG a1 (fun r15=>
 R (r15.v) w) w) w) w) w) w) w) w) w) w) w)
 (JF e3 (fun(x16:JA) w=>
 JC a1 x16 (fun w=>
 JG a1 (fun r17=>
 R (r17.v) w) w) w) w)) w) w) w) w) w
theorem Ac8(s0:Option Addr)(K:JA→World→Prop)(w:World)(h:TJ s0 (Rt (JQ) K) w):QJ s0 K w:=
  fnc (A:=[]) (by kernel_rfl) Tryz.func105 Tryz.ntmps105 rfl h
noncomputable def KY(again8:List Value→World→Prop)(s11:Option Addr)(l13:Sl)(w:World):Prop:=
 DY s11 (fun(x14:JA) w=>
 bx (.cells #[.int .i64 x14.Kind,.int .i64 x14.At,.string x14.Text,.bool x14.Num_Neg,x14.Num_Mag.v,x14.Kids.v] 27) (fun a15 w=>
 rn (Builtin.append_ #[25,25] 25 #[l13.v,.slice (some a15) 1 1]) (hSl) (fun(l16:Sl) w=>
 again8 [l16.v] w) w) w) w
noncomputable def AP(R:Value→World→Prop)(s17:Option Addr)(x18:Addr)(l19:Sl)(w:World):Prop:=
 UJ s17 8 (fun(x20:Unit) w=>
 nn l19.a fun a21=>
 0≤(0:Int)∧(0:Int)<((l19.n:Nat):Int)∧
 JK (a21.add 1) (fun(i22:Int) w=>
 JI 2 i22 (⟨#[]⟩:ByteArray) l19 (fun(x23:JA) w=>
 JC x18 x23 (fun w=>
 JG x18 (fun r24=>
 R (r24.v) w) w) w) w) w) w
noncomputable def RG(s0:Option Addr)(R:Value→World→Prop)(w:World):Prop:=
 bx (.cells #[.int .i64 0,.int .i64 0,.string (⟨#[]⟩:ByteArray),.bool false,.slice none 0 0,.slice none 0 0] 27) (fun a1 w=>
 JU s0 5 (⟨#[58]⟩:ByteArray) (fun(x2:Unit) w=>
 UJ s0 6 (fun(x3:Unit) w=>
 UJ s0 7 (fun(x4:Unit) w=>
 DY s0 (fun(x5:JA) w=>
 bx (.cells #[.int .i64 x5.Kind,.int .i64 x5.At,.string x5.Text,.bool x5.Num_Neg,x5.Num_Mag.v,x5.Kids.v] 27) (fun a6 w=>
 Lp (α:=Sl) (fun l7=>[l7.v]) [.slice (some a6) 1 1] (fun l7 again8 w=>
 YM s0 (fun(b9:Bool) w=>
 br (!b9)
 (QW s0 (fun(x10:JN) w=>
 br (x10.Kind != (8:Int))
 (KY again8 s0 l7 w)
 (AP R s0 a1 l7 w)) w)
 (AP R s0 a1 l7 w)) w) w) w) w) w) w) w) w
theorem AbX(s0:Option Addr)(K:JA→World→Prop)(w:World)(h:RG s0 (Rt (JQ) K) w):YP s0 K w:=
  fnc (A:=[(5,[(3,hSl)])]) (by kernel_rfl) Tryz.func106 Tryz.ntmps106 rfl h
noncomputable def NB(s0:Option Addr)(R:Value→World→Prop)(w:World):Prop:=
 bx (.cells #[.int .i64 0,.int .i64 0,.string (⟨#[]⟩:ByteArray),.bool false,.slice none 0 0,.slice none 0 0] 27) (fun a1 w=>
 VO s0 (fun(x2:JA) w=>
 bx (.cells #[.int .i64 x2.Kind,.int .i64 x2.At,.string x2.Text,.bool x2.Num_Neg,x2.Num_Mag.v,x2.Kids.v] 27) (fun a3 w=>
 Lp (α:=Sl) (fun l4=>[l4.v]) [.slice (some a3) 1 1] (fun l4 again5 w=>
 JJ s0 5 (⟨#[44]⟩:ByteArray) (fun(b6:Bool) w=>
 br (b6)
 (VO s0 (fun(x7:JA) w=>
 bx (.cells #[.int .i64 x7.Kind,.int .i64 x7.At,.string x7.Text,.bool x7.Num_Neg,x7.Num_Mag.v,x7.Kids.v] 27) (fun a8 w=>
 rn (Builtin.append_ #[25,25] 25 #[l4.v,.slice (some a8) 1 1]) (hSl) (fun(l9:Sl) w=>
 again5 [l9.v] w) w) w) w)
 (Lp (α:=Int) (fun i10=>[.int .i64 i10]) [.int .i64 0] (fun i10 again11 w=>
 br (decide (i10<(l4.n:Int)))
 (nn l4.a fun a12=>
 0≤i10∧i10<((l4.n:Nat):Int)∧
 JF (a12.add (i10.toNat * 6)) (fun(x13:JA) w=>
 EE x13 (fun(b14:Bool) w=>
 br (!b14)
 (nn l4.a fun a15=>
 0≤i10∧i10<((l4.n:Nat):Int)∧
 JK ((a15.add (i10.toNat * 6)).add 1) (fun(i16:Int) w=>
 VK s0 108 i16 (fun(x17:Unit) w=>
 again11 [.int .i64 (IntKind.i64.wrap (i10+1))] w) w) w)
 (again11 [.int .i64 (IntKind.i64.wrap (i10+1))] w)) w) w)
 (br ((l4.n:Int)==(1:Int))
 (nn l4.a fun a18=>
 0≤(0:Int)∧(0:Int)<((l4.n:Nat):Int)∧
 JF a18 (fun(x19:JA) w=>
 JC a1 x19 (fun w=>
 JG a1 (fun r20=>
 R (r20.v) w) w) w) w)
 (nn l4.a fun a21=>
 0≤(0:Int)∧(0:Int)<((l4.n:Nat):Int)∧
 JK (a21.add 1) (fun(i22:Int) w=>
 JI 23 i22 (⟨#[]⟩:ByteArray) l4 (fun(x23:JA) w=>
 JC a1 x23 (fun w=>
 JG a1 (fun r24=>
 R (r24.v) w) w) w) w) w))) w)) w) w) w) w) w
theorem AaO(s0:Option Addr)(K:JA→World→Prop)(w:World)(h:NB s0 (Rt (JQ) K) w):DR s0 K w:=
  fnc (A:=[(2,[(3,hSl)]),(5,[(4,QC .i64)])]) (by kernel_rfl) Tryz.func107 Tryz.ntmps107 rfl h
noncomputable def TM(s0:Option Addr)(kind:Int)(text:ByteArray)(R:Value→World→Prop)(w:World):Prop:=
 JJ s0 kind text (fun(b1:Bool) w=>
 br (!b1)
 (QZ s0 (fun(x2:Unit) w=>
 R (.tuple #[]) w) w)
 (R (.tuple #[]) w)) w
theorem Adb(s0:Option Addr)(kind:Int)(text:ByteArray)(K:Unit→World→Prop)(w:World)(h:TM s0 kind text (Rt (QK) K) w):JU s0 kind text K w:=
  fnc (A:=[]) (by kernel_rfl) Tryz.func108 Tryz.ntmps108 rfl h
noncomputable def RI(s0:Option Addr)(R:Value→World→Prop)(w:World):Prop:=
 bx (.cells #[.int .i64 0,.int .i64 0,.string (⟨#[]⟩:ByteArray),.bool false,.slice none 0 0,.slice none 0 0] 27) (fun a1 w=>
 QJ s0 (fun(x2:JA) w=>
 bx (.cells #[.int .i64 0,.int .i64 0,.string (⟨#[]⟩:ByteArray),.bool false,.slice none 0 0,.slice none 0 0] 27) (fun e3 w=>
 JC e3 x2 (fun w=>
 VD s0 (⟨#[44]⟩:ByteArray) (fun(b4:Bool) w=>
 br (!b4)
 (JF e3 (fun(x5:JA) w=>
 JC a1 x5 (fun w=>
 JG a1 (fun r6=>
 R (r6.v) w) w) w) w)
 (dw (fun w=>
 ∃ S7:World→Prop,S7 w∧
 QG S7 (e3.add 1) fun(i8:Int)=>
 QB S7 e3 fun(x9:JA)=>
 bx (.cells #[.int .i64 x9.Kind,.int .i64 x9.At,.string x9.Text,.bool x9.Num_Neg,x9.Num_Mag.v,x9.Kids.v] 27) (fun a10 w=>
 S7 w∧
 GH s0 ⟨some a10,1,1⟩ (fun(l11:Sl) w=>
 S7 w∧
 JI 35 i8 (⟨#[]⟩:ByteArray) l11 (fun(x12:JA) w=>
 JC a1 x12 (fun w=>
 JG a1 (fun r13=>
 R (r13.v) w) w) w) w) w) w) w)) w) w) w) w) w
theorem AbZ(s0:Option Addr)(K:JA→World→Prop)(w:World)(h:RI s0 (Rt (JQ) K) w):XB s0 K w:=
  fnc (A:=[]) (by kernel_rfl) Tryz.func109 Tryz.ntmps109 rfl h
noncomputable def LZ(R:Value→World→Prop)(s8:Option Addr)(t9:Addr)(w:World):Prop:=
 nn s8 fun a10=>
 JK (a10.add 1) (fun(i11:Int) w=>
 nn s8 fun a12=>
 YX (a12.add 1) (IntKind.i64.wrap (i11+1)) (fun w=>
 QO (t9.add 1) (fun(s13:ByteArray) w=>
 R (.string s13) w) w) w) w
noncomputable def TN(s0:Option Addr)(R:Value→World→Prop)(w:World):Prop:=
 QW s0 (fun(x1:JN) w=>
 bx (.cells #[.int .i64 0,.string (⟨#[]⟩:ByteArray),.int .i64 0] 131) (fun t2 w=>
 XA t2 x1 (fun w=>
 YM s0 (fun(b3:Bool) w=>
 br (b3)
 (QZ s0 (fun(x4:Unit) w=>
 R (.string (⟨#[]⟩:ByteArray)) w) w)
 (BI t2 (fun(x5:JN) w=>
 BX x5 (fun(b6:Bool) w=>
 br (!b6)
 (QZ s0 (fun(x7:Unit) w=>
 R (.string (⟨#[]⟩:ByteArray)) w) w)
 (LZ R s0 t2 w)) w) w)) w) w) w) w
theorem Adc(s0:Option Addr)(K:ByteArray→World→Prop)(w:World)(h:TN s0 (Rt (EB) K) w):VC s0 K w:=
  fnc (A:=[]) (by kernel_rfl) Tryz.func110 Tryz.ntmps110 rfl h
noncomputable def IG(R:Value→World→Prop)(again2:List Value→World→Prop)(t37:Option Addr)(r38:Sl)(r39:Bool)(w:World):Prop:=
 JJ t37 5 (⟨#[44]⟩:ByteArray) (fun(b40:Bool) w=>
 br (!b40)
 (R (r38.v) w)
 (again2 [r38.v,.bool r39] w)) w
noncomputable def MQ(R:Value→World→Prop)(again2:List Value→World→Prop)(t21:Option Addr)(r22:Sl)(r23:Bool)(a24:Addr)(w:World):Prop:=
 nn t21 fun a25=>
 JK (a25.add 1) (fun(i26:Int) w=>
 nn t21 fun a27=>
 YX (a27.add 1) (IntKind.i64.wrap (i26+1)) (fun w=>
 JJ t21 5 (⟨#[61]⟩:ByteArray) (fun(b28:Bool) w=>
 br (b28)
 (dw (fun w=>
 ∃ S29:World→Prop,S29 w∧
 QG S29 (a24.add 2) fun(i30:Int)=>
 YY S29 (a24.add 1) fun(s31:ByteArray)=>
 QJ t21 (fun(x32:JA) w=>
 S29 w∧
 bx (.cells #[.int .i64 x32.Kind,.int .i64 x32.At,.string x32.Text,.bool x32.Num_Neg,x32.Num_Mag.v,x32.Kids.v] 27) (fun a33 w=>
 S29 w∧
 JI 19 i30 s31 ⟨some a33,1,1⟩ (fun(x34:JA) w=>
 S29 w∧
 bx (.cells #[.int .i64 x34.Kind,.int .i64 x34.At,.string x34.Text,.bool x34.Num_Neg,x34.Num_Mag.v,x34.Kids.v] 27) (fun a35 w=>
 S29 w∧
 rn (Builtin.append_ #[25,25] 25 #[r22.v,.slice (some a35) 1 1]) (hSl) (fun(l36:Sl) w=>
 IG R again2 t21 l36 true w) w) w) w) w) w) w)
 (dw (fun w=>
 ∃ S41:World→Prop,S41 w∧
 QG S41 (a24.add 2) fun(i42:Int)=>
 YY S41 (a24.add 1) fun(s43:ByteArray)=>
 QG S41 (a24.add 2) fun(i44:Int)=>
 DL i44 (fun(x45:JA) w=>
 S41 w∧
 bx (.cells #[.int .i64 x45.Kind,.int .i64 x45.At,.string x45.Text,.bool x45.Num_Neg,x45.Num_Mag.v,x45.Kids.v] 27) (fun a46 w=>
 S41 w∧
 JI 19 i42 s43 ⟨some a46,1,1⟩ (fun(x47:JA) w=>
 S41 w∧
 bx (.cells #[.int .i64 x47.Kind,.int .i64 x47.At,.string x47.Text,.bool x47.Num_Neg,x47.Num_Mag.v,x47.Kids.v] 27) (fun a48 w=>
 S41 w∧
 rn (Builtin.append_ #[25,25] 25 #[r22.v,.slice (some a48) 1 1]) (hSl) (fun(l49:Sl) w=>
 IG R again2 t21 l49 r23 w) w) w) w) w) w) w)) w) w) w
noncomputable def PE(t0:Option Addr)(R:Value→World→Prop)(w:World):Prop:=
 Lp (α:=Sl×Bool) (fun x1=>[x1.1.v,.bool x1.2]) [.slice none 0 0,.bool false] (fun x1 again2 w=>
 YM t0 (fun(b3:Bool) w=>
 br (!b3)
 (QW t0 (fun(x4:JN) w=>
 bx (.cells #[.int .i64 0,.string (⟨#[]⟩:ByteArray),.int .i64 0] 131) (fun a5 w=>
 XA a5 x4 (fun w=>
 JJ t0 5 (⟨#[42,42]⟩:ByteArray) (fun(b6:Bool) w=>
 br (b6)
 (dw (fun w=>
 ∃ S7:World→Prop,S7 w∧
 QG S7 (a5.add 2) fun(i8:Int)=>
 VC t0 (fun(s9:ByteArray) w=>
 S7 w∧
 JI 19 i8 s9 ⟨none,0,0⟩ (fun(x10:JA) w=>
 S7 w∧
 bx (.cells #[.int .i64 x10.Kind,.int .i64 x10.At,.string x10.Text,.bool x10.Num_Neg,x10.Num_Mag.v,x10.Kids.v] 27) (fun a11 w=>
 S7 w∧
 rn (Builtin.append_ #[25,25] 25 #[x1.1.v,.slice (some a11) 1 1]) (hSl) (fun(l12:Sl) w=>
 JJ t0 5 (⟨#[44]⟩:ByteArray) (fun(b13:Bool) w=>
 R (l12.v) w) w) w) w) w) w) w)
 (BI a5 (fun(x14:JN) w=>
 BX x14 (fun(b15:Bool) w=>
 br (!b15)
 (R (x1.1.v) w)
 (BA t0 (fun(x16:JN) w=>
 bx (.cells #[.int .i64 0,.string (⟨#[]⟩:ByteArray),.int .i64 0] 131) (fun y17 w=>
 XA y17 x16 (fun w=>
 br (x1.2)
 (JK y17 (fun(i18:Int) w=>
 br (i18==(5:Int))
 (QO (y17.add 1) (fun(s19:ByteArray) w=>
 br (!(s19.toList==(⟨#[61]⟩:ByteArray).toList))
 (QZ t0 (fun(x20:Unit) w=>
 R (x1.1.v) w) w)
 (MQ R again2 t0 x1.1 x1.2 a5 w)) w)
 (QZ t0 (fun(x50:Unit) w=>
 R (x1.1.v) w) w)) w)
 (MQ R again2 t0 x1.1 x1.2 a5 w)) w) w) w)) w) w)) w) w) w) w)
 (R (x1.1.v) w)) w) w
theorem Abd(t0:Option Addr)(K:Sl→World→Prop)(w:World)(h:PE t0 (Rt (hSl) K) w):HB t0 K w:=
  fnc (A:=[(3,[(3,hSl),(4,JS)])]) (by kernel_rfl) Tryz.func111 Tryz.ntmps111 rfl h
noncomputable def AcP(at0:Int)(R:Value→World→Prop)(w:World):Prop:=
 bx (.cells #[.int .i64 0,.int .i64 0,.string (⟨#[]⟩:ByteArray),.bool false,.slice none 0 0,.slice none 0 0] 27) (fun a1 w=>
 JC a1 ⟨0,at0,(⟨#[]⟩:ByteArray),false,⟨none,0,0⟩,⟨none,0,0⟩⟩ (fun w=>
 JG a1 (fun r2=>
 R (r2.v) w) w) w) w
theorem AfU(at0:Int)(K:JA→World→Prop)(w:World)(h:AcP at0 (Rt (JQ) K) w):DL at0 K w:=
  fnc (A:=[]) (by kernel_rfl) Tryz.func112 Tryz.ntmps112 rfl h
noncomputable def TS(s0:Option Addr)(text:ByteArray)(R:Value→World→Prop)(w:World):Prop:=
 IF s0 2 text (fun(b1:Bool) w=>
 R (.bool b1) w) w
theorem Adi(s0:Option Addr)(text:ByteArray)(K:Bool→World→Prop)(w:World)(h:TS s0 text (Rt (JS) K) w):XJ s0 text K w:=
  fnc (A:=[]) (by kernel_rfl) Tryz.func113 Tryz.ntmps113 rfl h
noncomputable def RO(s0:Option Addr)(R:Value→World→Prop)(w:World):Prop:=
 QW s0 (fun(x1:JN) w=>
 VK s0 106 x1.At (fun(x2:Unit) w=>
 R (.tuple #[]) w) w) w
theorem Ab5(s0:Option Addr)(K:Unit→World→Prop)(w:World)(h:RO s0 (Rt (QK) K) w):QZ s0 K w:=
  fnc (A:=[]) (by kernel_rfl) Tryz.func114 Tryz.ntmps114 rfl h
noncomputable def MO(again2:List Value→World→Prop)(s15:Option Addr)(l16:Sl)(bare17:Bool)(at18:Int)(class19:Addr)(name20:ByteArray)(w:World):Prop:=
 dw (fun w=>
 ∃ S21:World→Prop,S21 w∧
 QB S21 class19 fun(x22:JA)=>
 YP s15 (fun(x23:JA) w=>
 S21 w∧
 bx (.cells #[.int .i64 x22.Kind,.int .i64 x22.At,.string x22.Text,.bool x22.Num_Neg,x22.Num_Mag.v,x22.Kids.v,.int .i64 x23.Kind,.int .i64 x23.At,.string x23.Text,.bool x23.Num_Neg,x23.Num_Mag.v,x23.Kids.v] 27) (fun a24 w=>
 S21 w∧
 JI 22 at18 name20 ⟨some a24,2,2⟩ (fun(x25:JA) w=>
 S21 w∧
 bx (.cells #[.int .i64 x25.Kind,.int .i64 x25.At,.string x25.Text,.bool x25.Num_Neg,x25.Num_Mag.v,x25.Kids.v] 27) (fun a26 w=>
 S21 w∧
 rn (Builtin.append_ #[25,25] 25 #[l16.v,.slice (some a26) 1 1]) (hSl) (fun(l27:Sl) w=>
 again2 [l27.v,.bool bare17] w) w) w) w) w) w) w
noncomputable def PC(s0:Option Addr)(l0:Sl)(R:Value→World→Prop)(w:World):Prop:=
 Lp (α:=Sl×Bool) (fun x1=>[x1.1.v,.bool x1.2]) [l0.v,.bool false] (fun x1 again2 w=>
 XJ s0 (⟨#[101,120,99,101,112,116]⟩:ByteArray) (fun(b3:Bool) w=>
 br (b3)
 (QW s0 (fun(x4:JN) w=>
 br (x1.2)
 (QZ s0 (fun(x5:Unit) w=>
 R (x1.1.v) w) w)
 (nn s0 fun a6=>
 JK (a6.add 1) (fun(i7:Int) w=>
 nn s0 fun a8=>
 YX (a8.add 1) (IntKind.i64.wrap (i7+1)) (fun w=>
 DL x4.At (fun(x9:JA) w=>
 bx (.cells #[.int .i64 0,.int .i64 0,.string (⟨#[]⟩:ByteArray),.bool false,.slice none 0 0,.slice none 0 0] 27) (fun class10 w=>
 JC class10 x9 (fun w=>
 XD s0 (fun(b11:Bool) w=>
 br (b11)
 (QJ s0 (fun(x12:JA) w=>
 JC class10 x12 (fun w=>
 JJ s0 2 (⟨#[97,115]⟩:ByteArray) (fun(b13:Bool) w=>
 br (b13)
 (VC s0 (fun(s14:ByteArray) w=>
 MO again2 s0 x1.1 x1.2 x4.At class10 s14 w) w)
 (MO again2 s0 x1.1 x1.2 x4.At class10 (⟨#[]⟩:ByteArray) w)) w) w) w)
 (MO again2 s0 x1.1 true x4.At class10 (⟨#[]⟩:ByteArray) w)) w) w) w) w) w) w)) w)
 (R (x1.1.v) w)) w) w
theorem Abb(s0:Option Addr)(l0:Sl)(K:Sl→World→Prop)(w:World)(h:PC s0 l0 (Rt (hSl) K) w):HA s0 l0 K w:=
  fnc (A:=[(2,[(1,hSl),(5,JS)])]) (by kernel_rfl) Tryz.func115 Tryz.ntmps115 rfl h
noncomputable def MR(R:Value→World→Prop)(t16:Option Addr)(A17:Addr)(r18:Int)(w:World):Prop:=
 JJ t16 2 (⟨#[114,101,116,117,114,110]⟩:ByteArray) (fun(b19:Bool) w=>
 br (b19)
 (XD t16 (fun(b20:Bool) w=>
 br (b20)
 (XB t16 (fun(x21:JA) w=>
 bx (.cells #[.int .i64 x21.Kind,.int .i64 x21.At,.string x21.Text,.bool x21.Num_Neg,x21.Num_Mag.v,x21.Kids.v] 27) (fun a22 w=>
 JI 11 r18 (⟨#[]⟩:ByteArray) ⟨some a22,1,1⟩ (fun(x23:JA) w=>
 JC A17 x23 (fun w=>
 JG A17 (fun r24=>
 R (r24.v) w) w) w) w) w) w)
 (DL r18 (fun(x25:JA) w=>
 bx (.cells #[.int .i64 x25.Kind,.int .i64 x25.At,.string x25.Text,.bool x25.Num_Neg,x25.Num_Mag.v,x25.Kids.v] 27) (fun a26 w=>
 JI 11 r18 (⟨#[]⟩:ByteArray) ⟨some a26,1,1⟩ (fun(x27:JA) w=>
 JC A17 x27 (fun w=>
 JG A17 (fun r28=>
 R (r28.v) w) w) w) w) w) w)) w)
 (JJ t16 2 (⟨#[114,97,105,115,101]⟩:ByteArray) (fun(b29:Bool) w=>
 br (b29)
 (XD t16 (fun(b30:Bool) w=>
 br (b30)
 (QJ t16 (fun(x31:JA) w=>
 bx (.cells #[.int .i64 x31.Kind,.int .i64 x31.At,.string x31.Text,.bool x31.Num_Neg,x31.Num_Mag.v,x31.Kids.v] 27) (fun a32 w=>
 JI 12 r18 (⟨#[]⟩:ByteArray) ⟨some a32,1,1⟩ (fun(x33:JA) w=>
 JC A17 x33 (fun w=>
 JG A17 (fun r34=>
 R (r34.v) w) w) w) w) w) w)
 (DL r18 (fun(x35:JA) w=>
 bx (.cells #[.int .i64 x35.Kind,.int .i64 x35.At,.string x35.Text,.bool x35.Num_Neg,x35.Num_Mag.v,x35.Kids.v] 27) (fun a36 w=>
 JI 12 r18 (⟨#[]⟩:ByteArray) ⟨some a36,1,1⟩ (fun(x37:JA) w=>
 JC A17 x37 (fun w=>
 JG A17 (fun r38=>
 R (r38.v) w) w) w) w) w) w)) w)
 (JJ t16 2 (⟨#[103,108,111,98,97,108]⟩:ByteArray) (fun(b39:Bool) w=>
 br (b39)
 (AF t16 (fun(l40:Sl) w=>
 JI 13 r18 (⟨#[]⟩:ByteArray) l40 (fun(x41:JA) w=>
 JC A17 x41 (fun w=>
 JG A17 (fun r42=>
 R (r42.v) w) w) w) w) w)
 (JJ t16 2 (⟨#[110,111,110,108,111,99,97,108]⟩:ByteArray) (fun(b43:Bool) w=>
 br (b43)
 (AF t16 (fun(l44:Sl) w=>
 JI 14 r18 (⟨#[]⟩:ByteArray) l44 (fun(x45:JA) w=>
 JC A17 x45 (fun w=>
 JG A17 (fun r46=>
 R (r46.v) w) w) w) w) w)
 (JJ t16 2 (⟨#[100,101,108]⟩:ByteArray) (fun(b47:Bool) w=>
 br (b47)
 (VO t16 (fun(x48:JA) w=>
 bx (.cells #[.int .i64 0,.int .i64 0,.string (⟨#[]⟩:ByteArray),.bool false,.slice none 0 0,.slice none 0 0] 27) (fun y49 w=>
 JC y49 x48 (fun w=>
 JF y49 (fun(x50:JA) w=>
 EE x50 (fun(b51:Bool) w=>
 br (!b51)
 (JK (y49.add 1) (fun(i52:Int) w=>
 VK t16 108 i52 (fun(x53:Unit) w=>
 JF y49 (fun(x54:JA) w=>
 bx (.cells #[.int .i64 x54.Kind,.int .i64 x54.At,.string x54.Text,.bool x54.Num_Neg,x54.Num_Mag.v,x54.Kids.v] 27) (fun a55 w=>
 JI 7 r18 (⟨#[]⟩:ByteArray) ⟨some a55,1,1⟩ (fun(x56:JA) w=>
 JC A17 x56 (fun w=>
 JG A17 (fun r57=>
 R (r57.v) w) w) w) w) w) w) w) w)
 (JF y49 (fun(x58:JA) w=>
 bx (.cells #[.int .i64 x58.Kind,.int .i64 x58.At,.string x58.Text,.bool x58.Num_Neg,x58.Num_Mag.v,x58.Kids.v] 27) (fun a59 w=>
 JI 7 r18 (⟨#[]⟩:ByteArray) ⟨some a59,1,1⟩ (fun(x60:JA) w=>
 JC A17 x60 (fun w=>
 JG A17 (fun r61=>
 R (r61.v) w) w) w) w) w) w)) w) w) w) w) w)
 (XB t16 (fun(x62:JA) w=>
 AJ t16 x62 (fun(x63:JA) w=>
 bx (.cells #[.int .i64 0,.int .i64 0,.string (⟨#[]⟩:ByteArray),.bool false,.slice none 0 0,.slice none 0 0] 27) (fun a64 w=>
 JC a64 x63 (fun w=>
 YX (a64.add 1) r18 (fun w=>
 JF a64 (fun(x65:JA) w=>
 JC A17 x65 (fun w=>
 JG A17 (fun r66=>
 R (r66.v) w) w) w) w) w) w) w) w) w)) w)) w)) w)) w)) w
noncomputable def VY(R:Value→World→Prop)(t7:Option Addr)(A8:Addr)(r9:Int)(a10:Int)(w:World):Prop:=
 br (a10 != (0:Int))
 (nn t7 fun a11=>
 JK (a11.add 1) (fun(i12:Int) w=>
 nn t7 fun a13=>
 YX (a13.add 1) (IntKind.i64.wrap (i12+1)) (fun w=>
 JI a10 r9 (⟨#[]⟩:ByteArray) ⟨none,0,0⟩ (fun(x14:JA) w=>
 JC A8 x14 (fun w=>
 JG A8 (fun r15=>
 R (r15.v) w) w) w) w) w) w)
 (MR R t7 A8 r9 w)
noncomputable def PF(t0:Option Addr)(R:Value→World→Prop)(w:World):Prop:=
 bx (.cells #[.int .i64 0,.int .i64 0,.string (⟨#[]⟩:ByteArray),.bool false,.slice none 0 0,.slice none 0 0] 27) (fun A1 w=>
 QW t0 (fun(x2:JN) w=>
 bx (.cells #[.int .i64 0,.string (⟨#[]⟩:ByteArray),.int .i64 0] 131) (fun r3 w=>
 XA r3 x2 (fun w=>
 JK (r3.add 2) (fun(i4:Int) w=>
 JK r3 (fun(i5:Int) w=>
 br (i5==(2:Int))
 (QO (r3.add 1) (fun(s6:ByteArray) w=>
 br ((s6.toList==(⟨#[112,97,115,115]⟩:ByteArray).toList))
 (VY R t0 A1 i4 8 w)
 (br ((s6.toList==(⟨#[98,114,101,97,107]⟩:ByteArray).toList))
 (VY R t0 A1 i4 9 w)
 (br ((s6.toList==(⟨#[99,111,110,116,105,110,117,101]⟩:ByteArray).toList))
 (VY R t0 A1 i4 10 w)
 (VY R t0 A1 i4 0 w)))) w)
 (MR R t0 A1 i4 w)) w) w) w) w) w) w
theorem Abe(t0:Option Addr)(K:JA→World→Prop)(w:World)(h:PF t0 (Rt (JQ) K) w):HD t0 K w:=
  fnc (A:=[]) (by kernel_rfl) Tryz.func116 Tryz.ntmps116 rfl h
noncomputable def KZ(s0:Option Addr)(kind:Int)(R:Value→World→Prop)(w:World):Prop:=
 QW s0 (fun(x1:JN) w=>
 br (x1.Kind != kind)
 (QZ s0 (fun(x2:Unit) w=>
 R (.tuple #[]) w) w)
 (nn s0 fun a3=>
 JK (a3.add 1) (fun(i4:Int) w=>
 nn s0 fun a5=>
 YX (a5.add 1) (IntKind.i64.wrap (i4+1)) (fun w=>
 R (.tuple #[]) w) w) w)) w
theorem Aaf(s0:Option Addr)(kind:Int)(K:Unit→World→Prop)(w:World)(h:KZ s0 kind (Rt (QK) K) w):UJ s0 kind K w:=
  fnc (A:=[]) (by kernel_rfl) Tryz.func117 Tryz.ntmps117 rfl h
noncomputable def Abl(s0:Option Addr)(kind:Int)(text:ByteArray)(R:Value→World→Prop)(w:World):Prop:=
 QW s0 (fun(x1:JN) w=>
 bx (.cells #[.int .i64 0,.string (⟨#[]⟩:ByteArray),.int .i64 0] 131) (fun t2 w=>
 XA t2 x1 (fun w=>
 YM s0 (fun(b3:Bool) w=>
 br (!b3)
 (JK t2 (fun(i4:Int) w=>
 br (i4==kind)
 (QO (t2.add 1) (fun(s5:ByteArray) w=>
 R (.bool (s5.toList==text.toList)) w) w)
 (R (.bool false) w)) w)
 (R (.bool false) w)) w) w) w) w
theorem Ae0(s0:Option Addr)(kind:Int)(text:ByteArray)(K:Bool→World→Prop)(w:World)(h:Abl s0 kind text (Rt (JS) K) w):IF s0 kind text K w:=
  fnc (A:=[]) (by kernel_rfl) Tryz.func158 Tryz.ntmps158 rfl h
noncomputable def Abm(s0:Option Addr)(R:Value→World→Prop)(w:World):Prop:=
 bx (.cells #[.int .i64 0,.int .i64 0,.string (⟨#[]⟩:ByteArray),.bool false,.slice none 0 0,.slice none 0 0] 27) (fun a1 w=>
 EZ s0 (fun(x2:JA) w=>
 bx (.cells #[.int .i64 0,.int .i64 0,.string (⟨#[]⟩:ByteArray),.bool false,.slice none 0 0,.slice none 0 0] 27) (fun e3 w=>
 JC e3 x2 (fun w=>
 Lp (α:=Unit) (fun u4=>[]) [] (fun u4 again5 w=>
 JJ s0 2 (⟨#[111,114]⟩:ByteArray) (fun(b6:Bool) w=>
 br (b6)
 (dw (fun w=>
 ∃ S7:World→Prop,S7 w∧
 QG S7 (e3.add 1) fun(i8:Int)=>
 QB S7 e3 fun(x9:JA)=>
 EZ s0 (fun(x10:JA) w=>
 S7 w∧
 bx (.cells #[.int .i64 x9.Kind,.int .i64 x9.At,.string x9.Text,.bool x9.Num_Neg,x9.Num_Mag.v,x9.Kids.v,.int .i64 x10.Kind,.int .i64 x10.At,.string x10.Text,.bool x10.Num_Neg,x10.Num_Mag.v,x10.Kids.v] 27) (fun a11 w=>
 S7 w∧
 JI 45 i8 (⟨#[]⟩:ByteArray) ⟨some a11,2,2⟩ (fun(x12:JA) w=>
 JC e3 x12 (fun w=>
 again5 [] w) w) w) w) w) w)
 (JF e3 (fun(x13:JA) w=>
 JC a1 x13 (fun w=>
 JG a1 (fun r14=>
 R (r14.v) w) w) w) w)) w) w) w) w) w) w
theorem Ae1(s0:Option Addr)(K:JA→World→Prop)(w:World)(h:Abm s0 (Rt (JQ) K) w):DX s0 K w:=
  fnc (A:=[(2,[])]) (by kernel_rfl) Tryz.func159 Tryz.ntmps159 rfl h
noncomputable def NA(s0:Option Addr)(R:Value→World→Prop)(w:World):Prop:=
 bx (.cells #[.int .i64 0,.int .i64 0,.string (⟨#[]⟩:ByteArray),.bool false,.slice none 0 0,.slice none 0 0] 27) (fun a1 w=>
 IZ s0 (fun(x2:JA) w=>
 bx (.cells #[.int .i64 0,.int .i64 0,.string (⟨#[]⟩:ByteArray),.bool false,.slice none 0 0,.slice none 0 0] 27) (fun e3 w=>
 JC e3 x2 (fun w=>
 Lp (α:=Unit) (fun u4=>[]) [] (fun u4 again5 w=>
 YM s0 (fun(b6:Bool) w=>
 br (!b6)
 (JJ s0 5 (⟨#[40]⟩:ByteArray) (fun(b7:Bool) w=>
 br (b7)
 (JF e3 (fun(x8:JA) w=>
 bx (.cells #[.int .i64 x8.Kind,.int .i64 x8.At,.string x8.Text,.bool x8.Num_Neg,x8.Num_Mag.v,x8.Kids.v] 27) (fun a9 w=>
 IY s0 ⟨some a9,1,1⟩ (fun(l10:Sl) w=>
 JU s0 5 (⟨#[41]⟩:ByteArray) (fun(x11:Unit) w=>
 JK (e3.add 1) (fun(i12:Int) w=>
 JI 51 i12 (⟨#[]⟩:ByteArray) l10 (fun(x13:JA) w=>
 JC e3 x13 (fun w=>
 again5 [] w) w) w) w) w) w) w) w)
 (JJ s0 5 (⟨#[46]⟩:ByteArray) (fun(b14:Bool) w=>
 br (b14)
 (dw (fun w=>
 ∃ S15:World→Prop,S15 w∧
 QG S15 (e3.add 1) fun(i16:Int)=>
 QB S15 e3 fun(x17:JA)=>
 (VC s0 (fun(s18:ByteArray) w=>
 S15 w∧
 bx (.cells #[.int .i64 x17.Kind,.int .i64 x17.At,.string x17.Text,.bool x17.Num_Neg,x17.Num_Mag.v,x17.Kids.v] 27) (fun a19 w=>
 S15 w∧
 JI 53 i16 s18 ⟨some a19,1,1⟩ (fun(x20:JA) w=>
 JC e3 x20 (fun w=>
 again5 [] w) w) w) w) w)∧
 (bx (.cells #[.int .i64 x17.Kind,.int .i64 x17.At,.string x17.Text,.bool x17.Num_Neg,x17.Num_Mag.v,x17.Kids.v] 27) (fun a21 w=>
 S15 w∧
 VC s0 (fun(s22:ByteArray) w=>
 S15 w∧
 JI 53 i16 s22 ⟨some a21,1,1⟩ (fun(x23:JA) w=>
 JC e3 x23 (fun w=>
 again5 [] w) w) w) w) w)) w)
 (JJ s0 5 (⟨#[91]⟩:ByteArray) (fun(b24:Bool) w=>
 br (b24)
 (XB s0 (fun(x25:JA) w=>
 bx (.cells #[.int .i64 0,.int .i64 0,.string (⟨#[]⟩:ByteArray),.bool false,.slice none 0 0,.slice none 0 0] 27) (fun k26 w=>
 JC k26 x25 (fun w=>
 JU s0 5 (⟨#[93]⟩:ByteArray) (fun(x27:Unit) w=>
 JK (e3.add 1) (fun(i28:Int) w=>
 JF e3 (fun(x29:JA) w=>
 JF k26 (fun(x30:JA) w=>
 bx (.cells #[.int .i64 x29.Kind,.int .i64 x29.At,.string x29.Text,.bool x29.Num_Neg,x29.Num_Mag.v,x29.Kids.v,.int .i64 x30.Kind,.int .i64 x30.At,.string x30.Text,.bool x30.Num_Neg,x30.Num_Mag.v,x30.Kids.v] 27) (fun a31 w=>
 JI 54 i28 (⟨#[]⟩:ByteArray) ⟨some a31,2,2⟩ (fun(x32:JA) w=>
 JC e3 x32 (fun w=>
 again5 [] w) w) w) w) w) w) w) w) w) w) w)
 (JF e3 (fun(x33:JA) w=>
 JC a1 x33 (fun w=>
 JG a1 (fun r34=>
 R (r34.v) w) w) w) w)) w)) w)) w)
 (JF e3 (fun(x35:JA) w=>
 JC a1 x35 (fun w=>
 JG a1 (fun r36=>
 R (r36.v) w) w) w) w)) w) w) w) w) w) w
theorem AaN(s0:Option Addr)(K:JA→World→Prop)(w:World)(h:NA s0 (Rt (JQ) K) w):VO s0 K w:=
  fnc (A:=[(2,[])]) (by kernel_rfl) Tryz.func160 Tryz.ntmps160 rfl h
noncomputable def AdQ(n0:JA)(R:Value→World→Prop)(w:World):Prop:=
 bx (.cells n0.cells 27) (fun n1 w=>
 JK n1 (fun(i2:Int) w=>
 br (i2==(31:Int))
 (R (.bool true) w)
 (JK n1 (fun(i3:Int) w=>
 br (i3==(53:Int))
 (R (.bool true) w)
 (JK n1 (fun(i4:Int) w=>
 R (.bool (i4==(54:Int))) w) w)) w)) w) w
theorem AgA(n0:JA)(K:Bool→World→Prop)(w:World)(h:AdQ n0 (Rt (JS) K) w):EE n0 K w:=
  fnc (A:=[]) (by kernel_rfl) Tryz.func161 Tryz.ntmps161 rfl h
noncomputable def RJ(s0:Option Addr)(code:Int)(at0:Int)(R:Value→World→Prop)(w:World):Prop:=
 YM s0 (fun(b1:Bool) w=>
 br (!b1)
 (nn s0 fun a2=>
 ZO (a2.add 2) ⟨code,at0⟩ (fun w=>
 R (.tuple #[]) w) w)
 (R (.tuple #[]) w)) w
theorem Ab0(s0:Option Addr)(code:Int)(at0:Int)(K:Unit→World→Prop)(w:World)(h:RJ s0 code at0 (Rt (QK) K) w):VK s0 code at0 K w:=
  fnc (A:=[]) (by kernel_rfl) Tryz.func162 Tryz.ntmps162 rfl h
noncomputable def TO(s0:Option Addr)(text:ByteArray)(R:Value→World→Prop)(w:World):Prop:=
 IF s0 5 text (fun(b1:Bool) w=>
 R (.bool b1) w) w
theorem Ade(s0:Option Addr)(text:ByteArray)(K:Bool→World→Prop)(w:World)(h:TO s0 text (Rt (JS) K) w):VD s0 text K w:=
  fnc (A:=[]) (by kernel_rfl) Tryz.func163 Tryz.ntmps163 rfl h
noncomputable def TL(s0:Option Addr)(l0:Sl)(R:Value→World→Prop)(w:World):Prop:=
 Lp (α:=Sl) (fun l1=>[l1.v]) [l0.v] (fun l1 again2 w=>
 JJ s0 5 (⟨#[44]⟩:ByteArray) (fun(b3:Bool) w=>
 br (b3)
 (XD s0 (fun(b4:Bool) w=>
 br (!b4)
 (R (l1.v) w)
 (QJ s0 (fun(x5:JA) w=>
 bx (.cells #[.int .i64 x5.Kind,.int .i64 x5.At,.string x5.Text,.bool x5.Num_Neg,x5.Num_Mag.v,x5.Kids.v] 27) (fun a6 w=>
 rn (Builtin.append_ #[25,25] 25 #[l1.v,.slice (some a6) 1 1]) (hSl) (fun(l7:Sl) w=>
 again2 [l7.v] w) w) w) w)) w)
 (R (l1.v) w)) w) w
theorem Ada(s0:Option Addr)(l0:Sl)(K:Sl→World→Prop)(w:World)(h:TL s0 l0 (Rt (hSl) K) w):GH s0 l0 K w:=
  fnc (A:=[(1,[(1,hSl)])]) (by kernel_rfl) Tryz.func164 Tryz.ntmps164 rfl h
noncomputable def Afn(t0:JN)(R:Value→World→Prop)(w:World):Prop:=
 bx (.cells t0.cells 131) (fun t1 w=>
 JK t1 (fun(i2:Int) w=>
 br (i2==(1:Int))
 (QO (t1.add 1) (fun(s3:ByteArray) w=>
 AbW s3 (fun(b4:Bool) w=>
 R (.bool b4) w) w) w)
 (R (.bool false) w)) w) w
theorem Ahx(t0:JN)(K:Bool→World→Prop)(w:World)(h:Afn t0 (Rt (JS) K) w):BX t0 K w:=
  fnc (A:=[]) (by kernel_rfl) Tryz.func165 Tryz.ntmps165 rfl h
noncomputable def TR(s0:Option Addr)(R:Value→World→Prop)(w:World):Prop:=
 bx (.cells #[.int .i64 0,.string (⟨#[]⟩:ByteArray),.int .i64 0] 131) (fun a1 w=>
 nn s0 fun a2=>
 JK (a2.add 1) (fun(i3:Int) w=>
 nn s0 fun a4=>
 YX (a4.add 1) (IntKind.i64.wrap (i3+1)) (fun w=>
 QW s0 (fun(x5:JN) w=>
 bx (.cells #[.int .i64 0,.string (⟨#[]⟩:ByteArray),.int .i64 0] 131) (fun t6 w=>
 XA t6 x5 (fun w=>
 nn s0 fun a7=>
 JK (a7.add 1) (fun(i8:Int) w=>
 nn s0 fun a9=>
 YX (a9.add 1) (IntKind.i64.wrap (i8 - 1)) (fun w=>
 BI t6 (fun(x10:JN) w=>
 XA a1 x10 (fun w=>
 LO a1 (fun r11=>
 R (r11.v) w) w) w) w) w) w) w) w) w) w) w) w
theorem Adh(s0:Option Addr)(K:JN→World→Prop)(w:World)(h:TR s0 (Rt (VT) K) w):BA s0 K w:=
  fnc (A:=[]) (by kernel_rfl) Tryz.func166 Tryz.ntmps166 rfl h
noncomputable def PB(t0:Option Addr)(R:Value→World→Prop)(w:World):Prop:=
 QW t0 (fun(x1:JN) w=>
 bx (.cells #[.int .i64 0,.string (⟨#[]⟩:ByteArray),.int .i64 0] 131) (fun r2 w=>
 XA r2 x1 (fun w=>
 YM t0 (fun(b3:Bool) w=>
 br (b3)
 (R (.bool false) w)
 (JK r2 (fun(i4:Int) w=>
 br (i4==(1:Int))
 (BI r2 (fun(x5:JN) w=>
 BX x5 (fun(b6:Bool) w=>
 R (.bool b6) w) w) w)
 (br (i4==(3:Int))
 (QO (r2.add 1) (fun(s7:ByteArray) w=>
 OY s7 (fun(x8:GC) w=>
 bx (.cells #[.bool false,.slice none 0 0] 24) (fun r9 w=>
 ZW r9 x8.x0 (fun w=>
 R (.bool x8.x1) w) w) w) w) w)
 (br (i4==(4:Int))
 (QO (r2.add 1) (fun(s10:ByteArray) w=>
 AdF s10 (fun(b11:Bool) w=>
 R (.bool b11) w) w) w)
 (br (i4==(2:Int))
 (QO (r2.add 1) (fun(s12:ByteArray) w=>
 br ((s12.toList==(⟨#[78,111,110,101]⟩:ByteArray).toList))
 (R (.bool true) w)
 (QO (r2.add 1) (fun(s13:ByteArray) w=>
 br ((s13.toList==(⟨#[84,114,117,101]⟩:ByteArray).toList))
 (R (.bool true) w)
 (QO (r2.add 1) (fun(s14:ByteArray) w=>
 br ((s14.toList==(⟨#[70,97,108,115,101]⟩:ByteArray).toList))
 (R (.bool true) w)
 (QO (r2.add 1) (fun(s15:ByteArray) w=>
 R (.bool (s15.toList==(⟨#[110,111,116]⟩:ByteArray).toList)) w) w)) w)) w)) w)
 (br (i4==(5:Int))
 (QO (r2.add 1) (fun(s16:ByteArray) w=>
 br ((s16.toList==(⟨#[40]⟩:ByteArray).toList))
 (R (.bool true) w)
 (QO (r2.add 1) (fun(s17:ByteArray) w=>
 br ((s17.toList==(⟨#[91]⟩:ByteArray).toList))
 (R (.bool true) w)
 (QO (r2.add 1) (fun(s18:ByteArray) w=>
 br ((s18.toList==(⟨#[123]⟩:ByteArray).toList))
 (R (.bool true) w)
 (QO (r2.add 1) (fun(s19:ByteArray) w=>
 R (.bool (s19.toList==(⟨#[45]⟩:ByteArray).toList)) w) w)) w)) w)) w)
 (R (.bool false) w)))))) w)) w) w) w) w
theorem Aba(t0:Option Addr)(K:Bool→World→Prop)(w:World)(h:PB t0 (Rt (JS) K) w):XD t0 K w:=
  fnc (A:=[]) (by kernel_rfl) Tryz.func167 Tryz.ntmps167 rfl h
noncomputable def RM(s0:Option Addr)(R:Value→World→Prop)(w:World):Prop:=
 Lp (α:=Sl) (fun l1=>[l1.v]) [.slice none 0 0] (fun l1 again2 w=>
 QW s0 (fun(x3:JN) w=>
 VC s0 (fun(s4:ByteArray) w=>
 JI 31 x3.At s4 ⟨none,0,0⟩ (fun(x5:JA) w=>
 bx (.cells #[.int .i64 x5.Kind,.int .i64 x5.At,.string x5.Text,.bool x5.Num_Neg,x5.Num_Mag.v,x5.Kids.v] 27) (fun a6 w=>
 rn (Builtin.append_ #[25,25] 25 #[l1.v,.slice (some a6) 1 1]) (hSl) (fun(l7:Sl) w=>
 JJ s0 5 (⟨#[44]⟩:ByteArray) (fun(b8:Bool) w=>
 br (!b8)
 (R (l7.v) w)
 (again2 [l7.v] w)) w) w) w) w) w) w) w
theorem Ab3(s0:Option Addr)(K:Sl→World→Prop)(w:World)(h:RM s0 (Rt (hSl) K) w):AF s0 K w:=
  fnc (A:=[(2,[(3,hSl)])]) (by kernel_rfl) Tryz.func168 Tryz.ntmps168 rfl h
noncomputable def DO(R:Value→World→Prop)(t17:Option Addr)(r18:Addr)(r19:Addr)(w:World):Prop:=
 JK (r18.add 1) (fun(i20:Int) w=>
 VK t17 108 i20 (fun(x21:Unit) w=>
 JF r18 (fun(x22:JA) w=>
 JC r19 x22 (fun w=>
 JG r19 (fun r23=>
 R (r23.v) w) w) w) w) w) w
noncomputable def CV(R:Value→World→Prop)(t25:Option Addr)(r26:Addr)(r27:Addr)(w:World):Prop:=
 Lp (α:=Int) (fun a28=>[.int .i64 a28]) [.int .i64 0] (fun a28 again29 w=>
 JZ (r26.add 5) (fun(l30:Sl) w=>
 br (decide (a28<(l30.n:Int)))
 (JZ (r26.add 5) (fun(l31:Sl) w=>
 nn l31.a fun a32=>
 0≤a28∧a28<((l31.n:Nat):Int)∧
 JF (a32.add (a28.toNat * 6)) (fun(x33:JA) w=>
 EE x33 (fun(b34:Bool) w=>
 br (!b34)
 (JK (r26.add 1) (fun(i35:Int) w=>
 VK t25 108 i35 (fun(x36:Unit) w=>
 JF r26 (fun(x37:JA) w=>
 JC r27 x37 (fun w=>
 JG r27 (fun r38=>
 R (r38.v) w) w) w) w) w) w)
 (again29 [.int .i64 (IntKind.i64.wrap (a28+1))] w)) w) w) w)
 (nn t25 fun a39=>
 JK (a39.add 1) (fun(i40:Int) w=>
 nn t25 fun a41=>
 YX (a41.add 1) (IntKind.i64.wrap (i40+1)) (fun w=>
 dw (fun w=>
 ∃ S42:World→Prop,S42 w∧
 QG S42 (r26.add 1) fun(i43:Int)=>
 QG S42 (r26.add 1) fun(i44:Int)=>
 QM S42 (r26.add 5) fun(l45:Sl)=>
 JI 23 i44 (⟨#[]⟩:ByteArray) l45 (fun(x46:JA) w=>
 S42 w∧
 XB t25 (fun(x47:JA) w=>
 S42 w∧
 bx (.cells #[.int .i64 x46.Kind,.int .i64 x46.At,.string x46.Text,.bool x46.Num_Neg,x46.Num_Mag.v,x46.Kids.v,.int .i64 x47.Kind,.int .i64 x47.At,.string x47.Text,.bool x47.Num_Neg,x47.Num_Mag.v,x47.Kids.v] 27) (fun a48 w=>
 S42 w∧
 JI 5 i43 (⟨#[]⟩:ByteArray) ⟨some a48,2,2⟩ (fun(x49:JA) w=>
 JC r27 x49 (fun w=>
 JG r27 (fun r50=>
 R (r50.v) w) w) w) w) w) w) w) w) w) w)) w) w
noncomputable def KX(t0:Option Addr)(o0:JA)(R:Value→World→Prop)(w:World):Prop:=
 bx (.cells o0.cells 27) (fun r1 w=>
 bx (.cells #[.int .i64 0,.int .i64 0,.string (⟨#[]⟩:ByteArray),.bool false,.slice none 0 0,.slice none 0 0] 27) (fun r2 w=>
 VD t0 (⟨#[61]⟩:ByteArray) (fun(b3:Bool) w=>
 br (b3)
 (JF r1 (fun(x4:JA) w=>
 EE x4 (fun(b5:Bool) w=>
 br (b5)
 (nn t0 fun a6=>
 JK (a6.add 1) (fun(i7:Int) w=>
 nn t0 fun a8=>
 YX (a8.add 1) (IntKind.i64.wrap (i7+1)) (fun w=>
 dw (fun w=>
 ∃ S9:World→Prop,S9 w∧
 QG S9 (r1.add 1) fun(i10:Int)=>
 QB S9 r1 fun(x11:JA)=>
 XB t0 (fun(x12:JA) w=>
 S9 w∧
 bx (.cells #[.int .i64 x11.Kind,.int .i64 x11.At,.string x11.Text,.bool x11.Num_Neg,x11.Num_Mag.v,x11.Kids.v,.int .i64 x12.Kind,.int .i64 x12.At,.string x12.Text,.bool x12.Num_Neg,x12.Num_Mag.v,x12.Kids.v] 27) (fun a13 w=>
 S9 w∧
 JI 4 i10 (⟨#[]⟩:ByteArray) ⟨some a13,2,2⟩ (fun(x14:JA) w=>
 JC r2 x14 (fun w=>
 JG r2 (fun r15=>
 R (r15.v) w) w) w) w) w) w) w) w) w)
 (JK r1 (fun(i16:Int) w=>
 br (i16 != (35:Int))
 (DO R t0 r1 r2 w)
 (JZ (r1.add 5) (fun(l24:Sl) w=>
 br (decide ((l24.n:Int)<(2:Int)))
 (DO R t0 r1 r2 w)
 (CV R t0 r1 r2 w)) w)) w)) w) w)
 (bx (.cells #[.string (⟨#[43,61]⟩:ByteArray),.string (⟨#[45,61]⟩:ByteArray),.string (⟨#[42,61]⟩:ByteArray),.string (⟨#[47,47,61]⟩:ByteArray),.string (⟨#[37,61]⟩:ByteArray),.string (⟨#[38,61]⟩:ByteArray),.string (⟨#[124,61]⟩:ByteArray),.string (⟨#[94,61]⟩:ByteArray)] 9) (fun a51 w=>
 VR t0 ⟨some a51,8,8⟩ (fun(s52:ByteArray) w=>
 br ((s52.toList==(⟨#[]⟩:ByteArray).toList))
 (JK (r1.add 1) (fun(i53:Int) w=>
 JF r1 (fun(x54:JA) w=>
 bx (.cells #[.int .i64 x54.Kind,.int .i64 x54.At,.string x54.Text,.bool x54.Num_Neg,x54.Num_Mag.v,x54.Kids.v] 27) (fun a55 w=>
 JI 3 i53 (⟨#[]⟩:ByteArray) ⟨some a55,1,1⟩ (fun(x56:JA) w=>
 JC r2 x56 (fun w=>
 JG r2 (fun r57=>
 R (r57.v) w) w) w) w) w) w) w)
 (JF r1 (fun(x58:JA) w=>
 EE x58 (fun(b59:Bool) w=>
 br (!b59)
 (JK (r1.add 1) (fun(i60:Int) w=>
 VK t0 108 i60 (fun(x61:Unit) w=>
 JF r1 (fun(x62:JA) w=>
 JC r2 x62 (fun w=>
 JG r2 (fun r63=>
 R (r63.v) w) w) w) w) w) w)
 (nn t0 fun a64=>
 JK (a64.add 1) (fun(i65:Int) w=>
 nn t0 fun a66=>
 YX (a66.add 1) (IntKind.i64.wrap (i65+1)) (fun w=>
 dw (fun w=>
 ∃ S67:World→Prop,S67 w∧
 QG S67 (r1.add 1) fun(i68:Int)=>
 rnS S67 (Instr.sliceAt 9 (.string s52) none (some (.int .i64 (IntKind.i64.wrap ((s52.size:Int) - 1)))) none) (EB) fun(s69:ByteArray)=>
 QB S67 r1 fun(x70:JA)=>
 XB t0 (fun(x71:JA) w=>
 S67 w∧
 bx (.cells #[.int .i64 x70.Kind,.int .i64 x70.At,.string x70.Text,.bool x70.Num_Neg,x70.Num_Mag.v,x70.Kids.v,.int .i64 x71.Kind,.int .i64 x71.At,.string x71.Text,.bool x71.Num_Neg,x71.Num_Mag.v,x71.Kids.v] 27) (fun a72 w=>
 S67 w∧
 JI 6 i68 s69 ⟨some a72,2,2⟩ (fun(x73:JA) w=>
 JC r2 x73 (fun w=>
 JG r2 (fun r74=>
 R (r74.v) w) w) w) w) w) w) w) w) w)) w) w)) w) w)) w) w) w
theorem Aae(t0:Option Addr)(o0:JA)(K:JA→World→Prop)(w:World)(h:KX t0 o0 (Rt (JQ) K) w):AJ t0 o0 K w:=
  fnc (A:=[(9,[(5,QC .i64)])]) (by kernel_rfl) Tryz.func169 Tryz.ntmps169 rfl h
noncomputable def Aap(s0:Option Addr)(R:Value→World→Prop)(w:World):Prop:=
 bx (.cells #[.int .i64 0,.int .i64 0,.string (⟨#[]⟩:ByteArray),.bool false,.slice none 0 0,.slice none 0 0] 27) (fun a1 w=>
 MN s0 (fun(x2:JA) w=>
 bx (.cells #[.int .i64 0,.int .i64 0,.string (⟨#[]⟩:ByteArray),.bool false,.slice none 0 0,.slice none 0 0] 27) (fun e3 w=>
 JC e3 x2 (fun w=>
 Lp (α:=Unit) (fun u4=>[]) [] (fun u4 again5 w=>
 JJ s0 2 (⟨#[97,110,100]⟩:ByteArray) (fun(b6:Bool) w=>
 br (b6)
 (dw (fun w=>
 ∃ S7:World→Prop,S7 w∧
 QG S7 (e3.add 1) fun(i8:Int)=>
 QB S7 e3 fun(x9:JA)=>
 MN s0 (fun(x10:JA) w=>
 S7 w∧
 bx (.cells #[.int .i64 x9.Kind,.int .i64 x9.At,.string x9.Text,.bool x9.Num_Neg,x9.Num_Mag.v,x9.Kids.v,.int .i64 x10.Kind,.int .i64 x10.At,.string x10.Text,.bool x10.Num_Neg,x10.Num_Mag.v,x10.Kids.v] 27) (fun a11 w=>
 S7 w∧
 JI 46 i8 (⟨#[]⟩:ByteArray) ⟨some a11,2,2⟩ (fun(x12:JA) w=>
 JC e3 x12 (fun w=>
 again5 [] w) w) w) w) w) w)
 (JF e3 (fun(x13:JA) w=>
 JC a1 x13 (fun w=>
 JG a1 (fun r14=>
 R (r14.v) w) w) w) w)) w) w) w) w) w) w
theorem Ady(s0:Option Addr)(K:JA→World→Prop)(w:World)(h:Aap s0 (Rt (JQ) K) w):EZ s0 K w:=
  fnc (A:=[(2,[])]) (by kernel_rfl) Tryz.func220 Tryz.ntmps220 rfl h
noncomputable def GB(R:Value→World→Prop)(t15:Option Addr)(A16:Addr)(r17:Addr)(w:World):Prop:=
 nn t15 fun a18=>
 JK (a18.add 1) (fun(i19:Int) w=>
 nn t15 fun a20=>
 YX (a20.add 1) (IntKind.i64.wrap (i19+1)) (fun w=>
 JK r17 (fun(i21:Int) w=>
 br (i21==(1:Int))
 (JK (r17.add 2) (fun(i22:Int) w=>
 QO (r17.add 1) (fun(s23:ByteArray) w=>
 JI 31 i22 s23 ⟨none,0,0⟩ (fun(x24:JA) w=>
 JC A16 x24 (fun w=>
 JG A16 (fun r25=>
 R (r25.v) w) w) w) w) w) w)
 (br (i21==(3:Int))
 (QO (r17.add 1) (fun(s26:ByteArray) w=>
 OY s26 (fun(x27:GC) w=>
 bx (.cells #[.bool false,.slice none 0 0] 24) (fun r28 w=>
 ZW r28 x27.x0 (fun w=>
 JK (r17.add 2) (fun(i29:Int) w=>
 Acs r28 (fun(x30:ZP) w=>
 JC A16 ⟨32,i29,(⟨#[]⟩:ByteArray),x30.Neg,x30.Mag,⟨none,0,0⟩⟩ (fun w=>
 JG A16 (fun r31=>
 R (r31.v) w) w) w) w) w) w) w) w) w)
 (br (i21==(4:Int))
 (JK (r17.add 2) (fun(i32:Int) w=>
 QO (r17.add 1) (fun(s33:ByteArray) w=>
 JI 33 i32 s33 ⟨none,0,0⟩ (fun(x34:JA) w=>
 JC A16 x34 (fun w=>
 JG A16 (fun r35=>
 R (r35.v) w) w) w) w) w) w)
 (br (i21==(2:Int))
 (JK (r17.add 2) (fun(i36:Int) w=>
 QO (r17.add 1) (fun(s37:ByteArray) w=>
 JI 34 i36 s37 ⟨none,0,0⟩ (fun(x38:JA) w=>
 JC A16 x38 (fun w=>
 JG A16 (fun r39=>
 R (r39.v) w) w) w) w) w) w)
 (QO (r17.add 1) (fun(s40:ByteArray) w=>
 br ((s40.toList==(⟨#[40]⟩:ByteArray).toList))
 (JK (r17.add 2) (fun(i41:Int) w=>
 IB t15 i41 (fun(x42:JA) w=>
 JC A16 x42 (fun w=>
 JG A16 (fun r43=>
 R (r43.v) w) w) w) w) w)
 (br ((s40.toList==(⟨#[91]⟩:ByteArray).toList))
 (JK (r17.add 2) (fun(i44:Int) w=>
 HE t15 i44 (fun(x45:JA) w=>
 JC A16 x45 (fun w=>
 JG A16 (fun r46=>
 R (r46.v) w) w) w) w) w)
 (JK (r17.add 2) (fun(i47:Int) w=>
 IA t15 i47 (fun(x48:JA) w=>
 JC A16 x48 (fun w=>
 JG A16 (fun r49=>
 R (r49.v) w) w) w) w) w))) w))))) w) w) w
noncomputable def TH(t0:Option Addr)(R:Value→World→Prop)(w:World):Prop:=
 bx (.cells #[.int .i64 0,.int .i64 0,.string (⟨#[]⟩:ByteArray),.bool false,.slice none 0 0,.slice none 0 0] 27) (fun A1 w=>
 QW t0 (fun(x2:JN) w=>
 bx (.cells #[.int .i64 0,.string (⟨#[]⟩:ByteArray),.int .i64 0] 131) (fun r3 w=>
 XA r3 x2 (fun w=>
 XD t0 (fun(b4:Bool) w=>
 br (!b4)
 (QZ t0 (fun(x5:Unit) w=>
 JC A1 ⟨0,0,(⟨#[]⟩:ByteArray),false,⟨none,0,0⟩,⟨none,0,0⟩⟩ (fun w=>
 JG A1 (fun r6=>
 R (r6.v) w) w) w) w)
 (QO (r3.add 1) (fun(s7:ByteArray) w=>
 br ((s7.toList==(⟨#[110,111,116]⟩:ByteArray).toList))
 (JK r3 (fun(i8:Int) w=>
 br (i8==(2:Int))
 (QZ t0 (fun(x9:Unit) w=>
 JC A1 ⟨0,0,(⟨#[]⟩:ByteArray),false,⟨none,0,0⟩,⟨none,0,0⟩⟩ (fun w=>
 JG A1 (fun r10=>
 R (r10.v) w) w) w) w)
 (QO (r3.add 1) (fun(s11:ByteArray) w=>
 br ((s11.toList==(⟨#[45]⟩:ByteArray).toList))
 (JK r3 (fun(i12:Int) w=>
 br (i12==(5:Int))
 (QZ t0 (fun(x13:Unit) w=>
 JC A1 ⟨0,0,(⟨#[]⟩:ByteArray),false,⟨none,0,0⟩,⟨none,0,0⟩⟩ (fun w=>
 JG A1 (fun r14=>
 R (r14.v) w) w) w) w)
 (GB R t0 A1 r3 w)) w)
 (GB R t0 A1 r3 w)) w)) w)
 (QO (r3.add 1) (fun(s50:ByteArray) w=>
 br ((s50.toList==(⟨#[45]⟩:ByteArray).toList))
 (JK r3 (fun(i51:Int) w=>
 br (i51==(5:Int))
 (QZ t0 (fun(x52:Unit) w=>
 JC A1 ⟨0,0,(⟨#[]⟩:ByteArray),false,⟨none,0,0⟩,⟨none,0,0⟩⟩ (fun w=>
 JG A1 (fun r53=>
 R (r53.v) w) w) w) w)
 (GB R t0 A1 r3 w)) w)
 (GB R t0 A1 r3 w)) w)) w)) w) w) w) w) w
theorem Ac6(t0:Option Addr)(K:JA→World→Prop)(w:World)(h:TH t0 (Rt (JQ) K) w):IZ t0 K w:=
  fnc (A:=[]) (by kernel_rfl) Tryz.func221 Tryz.ntmps221 rfl h
noncomputable def GA(R:Value→World→Prop)(again2:List Value→World→Prop)(t29:Option Addr)(o30:Sl)(a31:Int)(w:World):Prop:=
 JJ t29 5 (⟨#[44]⟩:ByteArray) (fun(b32:Bool) w=>
 br (!b32)
 (R (o30.v) w)
 (again2 [o30.v,.int .i64 a31] w)) w
noncomputable def LW(R:Value→World→Prop)(again2:List Value→World→Prop)(t14:Option Addr)(o15:Sl)(a16:Int)(y17:Addr)(w:World):Prop:=
 br (decide (a16 > (1:Int)))
 (QZ t14 (fun(x18:Unit) w=>
 R (o15.v) w) w)
 (nn t14 fun a19=>
 JK (a19.add 1) (fun(i20:Int) w=>
 nn t14 fun a21=>
 YX (a21.add 1) (IntKind.i64.wrap (i20+1)) (fun w=>
 dw (fun w=>
 ∃ S22:World→Prop,S22 w∧
 QG S22 (y17.add 2) fun(i23:Int)=>
 QJ t14 (fun(x24:JA) w=>
 S22 w∧
 bx (.cells #[.int .i64 x24.Kind,.int .i64 x24.At,.string x24.Text,.bool x24.Num_Neg,x24.Num_Mag.v,x24.Kids.v] 27) (fun a25 w=>
 S22 w∧
 JI 40 i23 (⟨#[]⟩:ByteArray) ⟨some a25,1,1⟩ (fun(x26:JA) w=>
 S22 w∧
 bx (.cells #[.int .i64 x26.Kind,.int .i64 x26.At,.string x26.Text,.bool x26.Num_Neg,x26.Num_Mag.v,x26.Kids.v] 27) (fun a27 w=>
 S22 w∧
 rn (Builtin.append_ #[25,25] 25 #[o15.v,.slice (some a27) 1 1]) (hSl) (fun(l28:Sl) w=>
 GA R again2 t14 l28 2 w) w) w) w) w) w) w) w) w)
noncomputable def LX(R:Value→World→Prop)(again2:List Value→World→Prop)(t42:Option Addr)(o43:Sl)(a44:Int)(y45:Addr)(w:World):Prop:=
 br (decide (a44 > (1:Int)))
 (QZ t42 (fun(x46:Unit) w=>
 R (o43.v) w) w)
 (nn t42 fun a47=>
 JK (a47.add 1) (fun(i48:Int) w=>
 nn t42 fun a49=>
 YX (a49.add 1) (IntKind.i64.wrap (i48+2)) (fun w=>
 dw (fun w=>
 ∃ S50:World→Prop,S50 w∧
 QG S50 (y45.add 2) fun(i51:Int)=>
 YY S50 (y45.add 1) fun(s52:ByteArray)=>
 QJ t42 (fun(x53:JA) w=>
 S50 w∧
 bx (.cells #[.int .i64 x53.Kind,.int .i64 x53.At,.string x53.Text,.bool x53.Num_Neg,x53.Num_Mag.v,x53.Kids.v] 27) (fun a54 w=>
 S50 w∧
 JI 52 i51 s52 ⟨some a54,1,1⟩ (fun(x55:JA) w=>
 S50 w∧
 bx (.cells #[.int .i64 x55.Kind,.int .i64 x55.At,.string x55.Text,.bool x55.Num_Neg,x55.Num_Mag.v,x55.Kids.v] 27) (fun a56 w=>
 S50 w∧
 rn (Builtin.append_ #[25,25] 25 #[o43.v,.slice (some a56) 1 1]) (hSl) (fun(l57:Sl) w=>
 GA R again2 t42 l57 1 w) w) w) w) w) w) w) w) w)
noncomputable def DT(R:Value→World→Prop)(again2:List Value→World→Prop)(t58:Option Addr)(o59:Sl)(a60:Int)(w:World):Prop:=
 br (decide (a60 > (0:Int)))
 (QZ t58 (fun(x61:Unit) w=>
 R (o59.v) w) w)
 (QJ t58 (fun(x62:JA) w=>
 bx (.cells #[.int .i64 x62.Kind,.int .i64 x62.At,.string x62.Text,.bool x62.Num_Neg,x62.Num_Mag.v,x62.Kids.v] 27) (fun a63 w=>
 rn (Builtin.append_ #[25,25] 25 #[o59.v,.slice (some a63) 1 1]) (hSl) (fun(l64:Sl) w=>
 GA R again2 t58 l64 a60 w) w) w) w)
noncomputable def ER(R:Value→World→Prop)(again2:List Value→World→Prop)(t33:Option Addr)(o34:Sl)(a35:Int)(y36:Addr)(x37:Addr)(w:World):Prop:=
 BI y36 (fun(x38:JN) w=>
 BX x38 (fun(b39:Bool) w=>
 br (b39)
 (JK x37 (fun(i40:Int) w=>
 br (i40==(5:Int))
 (QO (x37.add 1) (fun(s41:ByteArray) w=>
 br ((s41.toList==(⟨#[61]⟩:ByteArray).toList))
 (LX R again2 t33 o34 a35 y36 w)
 (DT R again2 t33 o34 a35 w)) w)
 (DT R again2 t33 o34 a35 w)) w)
 (DT R again2 t33 o34 a35 w)) w) w
noncomputable def ES(R:Value→World→Prop)(again2:List Value→World→Prop)(t5:Option Addr)(o6:Sl)(a7:Int)(w:World):Prop:=
 QW t5 (fun(x8:JN) w=>
 bx (.cells #[.int .i64 0,.string (⟨#[]⟩:ByteArray),.int .i64 0] 131) (fun y9 w=>
 XA y9 x8 (fun w=>
 BA t5 (fun(x10:JN) w=>
 bx (.cells #[.int .i64 0,.string (⟨#[]⟩:ByteArray),.int .i64 0] 131) (fun a11 w=>
 XA a11 x10 (fun w=>
 JK y9 (fun(i12:Int) w=>
 br (i12==(5:Int))
 (QO (y9.add 1) (fun(s13:ByteArray) w=>
 br ((s13.toList==(⟨#[42,42]⟩:ByteArray).toList))
 (LW R again2 t5 o6 a7 y9 w)
 (ER R again2 t5 o6 a7 y9 a11 w)) w)
 (ER R again2 t5 o6 a7 y9 a11 w)) w) w) w) w) w) w) w
noncomputable def TG(t0:Option Addr)(o0:Sl)(R:Value→World→Prop)(w:World):Prop:=
 Lp (α:=Sl×Int) (fun x1=>[x1.1.v,.int .i64 x1.2]) [o0.v,.int .i64 0] (fun x1 again2 w=>
 YM t0 (fun(b3:Bool) w=>
 br (!b3)
 (XD t0 (fun(b4:Bool) w=>
 br (b4)
 (ES R again2 t0 x1.1 x1.2 w)
 (VD t0 (⟨#[42,42]⟩:ByteArray) (fun(b65:Bool) w=>
 br (b65)
 (ES R again2 t0 x1.1 x1.2 w)
 (R (x1.1.v) w)) w)) w)
 (R (x1.1.v) w)) w) w
theorem Ac5(t0:Option Addr)(o0:Sl)(K:Sl→World→Prop)(w:World)(h:TG t0 o0 (Rt (hSl) K) w):IY t0 o0 K w:=
  fnc (A:=[(2,[(1,hSl),(5,QC .i64)])]) (by kernel_rfl) Tryz.func222 Tryz.ntmps222 rfl h
noncomputable def AdP(s0:ByteArray)(R:Value→World→Prop)(w:World):Prop:=
 bx (.cells #[.bool false,.slice none 0 0] 24) (fun a1 w=>
 Ab6 s0 (fun(x2:MF) w=>
 bx (.cells #[.bool false,.slice none 0 0] 24) (fun x3 w=>
 ZW x3 x2.x0 (fun w=>
 dw (fun w=>
 ∃ S4:World→Prop,S4 w∧
 AiO S4 x3 fun(x5:ZP)=>
 br (x2.x1==(0:Int))
 (rnS S4 (Instr.index 9 (.string s0) (.int .i64 0)) (QC .u8) fun(i6:Int)=>
 ZW a1 x5 (fun w=>
 S4 w∧
 YK a1 (fun r7=>
 R (.tuple #[r7.v,.bool (i6 != (45:Int))]) w) w) w)
 (ZW a1 x5 (fun w=>
 S4 w∧
 YK a1 (fun r8=>
 R (.tuple #[r8.v,.bool false]) w) w) w)) w) w) w) w) w
theorem Agz(s0:ByteArray)(K:GC→World→Prop)(w:World)(h:AdP s0 (Rt (BQ) K) w):OY s0 K w:=
  fnc (A:=[]) (by kernel_rfl) Tryz.func223 Tryz.ntmps223 rfl h
noncomputable def Aat(s0:Option Addr)(l0:Sl)(R:Value→World→Prop)(w:World):Prop:=
 Lp (α:=Int) (fun i1=>[.int .i64 i1]) [.int .i64 0] (fun i1 again2 w=>
 br (decide (i1<(l0.n:Int)))
 (nn l0.a fun a3=>
 0≤i1∧i1<((l0.n:Nat):Int)∧
 QO (a3.add (i1.toNat * 1)) (fun(s4:ByteArray) w=>
 VD s0 s4 (fun(b5:Bool) w=>
 br (b5)
 (nn l0.a fun a6=>
 0≤i1∧i1<((l0.n:Nat):Int)∧
 QO (a6.add (i1.toNat * 1)) (fun(s7:ByteArray) w=>
 R (.string s7) w) w)
 (again2 [.int .i64 (IntKind.i64.wrap (i1+1))] w)) w) w)
 (R (.string (⟨#[]⟩:ByteArray)) w)) w
theorem AdC(s0:Option Addr)(l0:Sl)(K:ByteArray→World→Prop)(w:World)(h:Aat s0 l0 (Rt (EB) K) w):VR s0 l0 K w:=
  fnc (A:=[(2,[(5,QC .i64)])]) (by kernel_rfl) Tryz.func224 Tryz.ntmps224 rfl h
noncomputable def Aar(s0:Option Addr)(R:Value→World→Prop)(w:World):Prop:=
 bx (.cells #[.int .i64 0,.int .i64 0,.string (⟨#[]⟩:ByteArray),.bool false,.slice none 0 0,.slice none 0 0] 27) (fun a1 w=>
 QW s0 (fun(x2:JN) w=>
 JJ s0 2 (⟨#[110,111,116]⟩:ByteArray) (fun(b3:Bool) w=>
 br (b3)
 (MN s0 (fun(x4:JA) w=>
 bx (.cells #[.int .i64 x4.Kind,.int .i64 x4.At,.string x4.Text,.bool x4.Num_Neg,x4.Num_Mag.v,x4.Kids.v] 27) (fun a5 w=>
 JI 47 x2.At (⟨#[]⟩:ByteArray) ⟨some a5,1,1⟩ (fun(x6:JA) w=>
 JC a1 x6 (fun w=>
 JG a1 (fun r7=>
 R (r7.v) w) w) w) w) w) w)
 (EO s0 (fun(x8:JA) w=>
 JC a1 x8 (fun w=>
 JG a1 (fun r9=>
 R (r9.v) w) w) w) w)) w) w) w
theorem AdA(s0:Option Addr)(K:JA→World→Prop)(w:World)(h:Aar s0 (Rt (JQ) K) w):MN s0 K w:=
  fnc (A:=[]) (by kernel_rfl) Tryz.func243 Tryz.ntmps243 rfl h
noncomputable def RN(s0:Option Addr)(at0:Int)(R:Value→World→Prop)(w:World):Prop:=
 bx (.cells #[.int .i64 0,.int .i64 0,.string (⟨#[]⟩:ByteArray),.bool false,.slice none 0 0,.slice none 0 0] 27) (fun a1 w=>
 JJ s0 5 (⟨#[41]⟩:ByteArray) (fun(b2:Bool) w=>
 br (b2)
 (JI 35 at0 (⟨#[]⟩:ByteArray) ⟨none,0,0⟩ (fun(x3:JA) w=>
 JC a1 x3 (fun w=>
 JG a1 (fun r4=>
 R (r4.v) w) w) w) w)
 (QJ s0 (fun(x5:JA) w=>
 bx (.cells #[.int .i64 0,.int .i64 0,.string (⟨#[]⟩:ByteArray),.bool false,.slice none 0 0,.slice none 0 0] 27) (fun e6 w=>
 JC e6 x5 (fun w=>
 VD s0 (⟨#[44]⟩:ByteArray) (fun(b7:Bool) w=>
 br (!b7)
 (JU s0 5 (⟨#[41]⟩:ByteArray) (fun(x8:Unit) w=>
 JF e6 (fun(x9:JA) w=>
 JC a1 x9 (fun w=>
 JG a1 (fun r10=>
 R (r10.v) w) w) w) w) w)
 (JF e6 (fun(x11:JA) w=>
 bx (.cells #[.int .i64 x11.Kind,.int .i64 x11.At,.string x11.Text,.bool x11.Num_Neg,x11.Num_Mag.v,x11.Kids.v] 27) (fun a12 w=>
 GH s0 ⟨some a12,1,1⟩ (fun(l13:Sl) w=>
 JU s0 5 (⟨#[41]⟩:ByteArray) (fun(x14:Unit) w=>
 JI 35 at0 (⟨#[]⟩:ByteArray) l13 (fun(x15:JA) w=>
 JC a1 x15 (fun w=>
 JG a1 (fun r16=>
 R (r16.v) w) w) w) w) w) w) w) w)) w) w) w) w)) w) w
theorem Ab4(s0:Option Addr)(at0:Int)(K:JA→World→Prop)(w:World)(h:RN s0 at0 (Rt (JQ) K) w):IB s0 at0 K w:=
  fnc (A:=[]) (by kernel_rfl) Tryz.func244 Tryz.ntmps244 rfl h
noncomputable def PG(s0:Option Addr)(at0:Int)(R:Value→World→Prop)(w:World):Prop:=
 bx (.cells #[.int .i64 0,.int .i64 0,.string (⟨#[]⟩:ByteArray),.bool false,.slice none 0 0,.slice none 0 0] 27) (fun a1 w=>
 JJ s0 5 (⟨#[93]⟩:ByteArray) (fun(b2:Bool) w=>
 br (b2)
 (JI 36 at0 (⟨#[]⟩:ByteArray) ⟨none,0,0⟩ (fun(x3:JA) w=>
 JC a1 x3 (fun w=>
 JG a1 (fun r4=>
 R (r4.v) w) w) w) w)
 (QJ s0 (fun(x5:JA) w=>
 bx (.cells #[.int .i64 0,.int .i64 0,.string (⟨#[]⟩:ByteArray),.bool false,.slice none 0 0,.slice none 0 0] 27) (fun e6 w=>
 JC e6 x5 (fun w=>
 XJ s0 (⟨#[102,111,114]⟩:ByteArray) (fun(b7:Bool) w=>
 br (b7)
 (JF e6 (fun(x8:JA) w=>
 bx (.cells #[.int .i64 x8.Kind,.int .i64 x8.At,.string x8.Text,.bool x8.Num_Neg,x8.Num_Mag.v,x8.Kids.v] 27) (fun a9 w=>
 VB s0 ⟨some a9,1,1⟩ (fun(l10:Sl) w=>
 JU s0 5 (⟨#[93]⟩:ByteArray) (fun(x11:Unit) w=>
 JI 41 at0 (⟨#[]⟩:ByteArray) l10 (fun(x12:JA) w=>
 JC a1 x12 (fun w=>
 JG a1 (fun r13=>
 R (r13.v) w) w) w) w) w) w) w) w)
 (JF e6 (fun(x14:JA) w=>
 bx (.cells #[.int .i64 x14.Kind,.int .i64 x14.At,.string x14.Text,.bool x14.Num_Neg,x14.Num_Mag.v,x14.Kids.v] 27) (fun a15 w=>
 GH s0 ⟨some a15,1,1⟩ (fun(l16:Sl) w=>
 JU s0 5 (⟨#[93]⟩:ByteArray) (fun(x17:Unit) w=>
 JI 36 at0 (⟨#[]⟩:ByteArray) l16 (fun(x18:JA) w=>
 JC a1 x18 (fun w=>
 JG a1 (fun r19=>
 R (r19.v) w) w) w) w) w) w) w) w)) w) w) w) w)) w) w
theorem Abf(s0:Option Addr)(at0:Int)(K:JA→World→Prop)(w:World)(h:PG s0 at0 (Rt (JQ) K) w):HE s0 at0 K w:=
  fnc (A:=[]) (by kernel_rfl) Tryz.func245 Tryz.ntmps245 rfl h
noncomputable def RH(t0:Option Addr)(o0:Int)(R:Value→World→Prop)(w:World):Prop:=
 bx (.cells #[.int .i64 0,.int .i64 0,.string (⟨#[]⟩:ByteArray),.bool false,.slice none 0 0,.slice none 0 0] 27) (fun r1 w=>
 JJ t0 5 (⟨#[125]⟩:ByteArray) (fun(b2:Bool) w=>
 br (b2)
 (JI 38 o0 (⟨#[]⟩:ByteArray) ⟨none,0,0⟩ (fun(x3:JA) w=>
 JC r1 x3 (fun w=>
 JG r1 (fun r4=>
 R (r4.v) w) w) w) w)
 (VD t0 (⟨#[42,42]⟩:ByteArray) (fun(b5:Bool) w=>
 br (b5)
 (ED t0 (fun(x6:JA) w=>
 bx (.cells #[.int .i64 x6.Kind,.int .i64 x6.At,.string x6.Text,.bool x6.Num_Neg,x6.Num_Mag.v,x6.Kids.v] 27) (fun a7 w=>
 VL t0 ⟨some a7,1,1⟩ (fun(l8:Sl) w=>
 JU t0 5 (⟨#[125]⟩:ByteArray) (fun(x9:Unit) w=>
 JI 38 o0 (⟨#[]⟩:ByteArray) l8 (fun(x10:JA) w=>
 JC r1 x10 (fun w=>
 JG r1 (fun r11=>
 R (r11.v) w) w) w) w) w) w) w) w)
 (QJ t0 (fun(x12:JA) w=>
 bx (.cells #[.int .i64 0,.int .i64 0,.string (⟨#[]⟩:ByteArray),.bool false,.slice none 0 0,.slice none 0 0] 27) (fun y13 w=>
 JC y13 x12 (fun w=>
 JJ t0 5 (⟨#[58]⟩:ByteArray) (fun(b14:Bool) w=>
 br (b14)
 (dw (fun w=>
 ∃ S15:World→Prop,S15 w∧
 QG S15 (y13.add 1) fun(i16:Int)=>
 QB S15 y13 fun(x17:JA)=>
 (QJ t0 (fun(x18:JA) w=>
 S15 w∧
 (bx (.cells #[.int .i64 x17.Kind,.int .i64 x17.At,.string x17.Text,.bool x17.Num_Neg,x17.Num_Mag.v,x17.Kids.v,.int .i64 x18.Kind,.int .i64 x18.At,.string x18.Text,.bool x18.Num_Neg,x18.Num_Mag.v,x18.Kids.v] 27) (fun a19 w=>
 S15 w∧
 (JI 39 i16 (⟨#[]⟩:ByteArray) ⟨some a19,2,2⟩ (fun(x20:JA) w=>
 S15 w∧
 bx (.cells #[.int .i64 0,.int .i64 0,.string (⟨#[]⟩:ByteArray),.bool false,.slice none 0 0,.slice none 0 0] 27) (fun a21 w=>
 S15 w∧
 JC a21 x20 (fun w=>
 XJ t0 (⟨#[102,111,114]⟩:ByteArray) (fun(b22:Bool) w=>
 br (b22)
 (JF a21 (fun(x23:JA) w=>
 bx (.cells #[.int .i64 x23.Kind,.int .i64 x23.At,.string x23.Text,.bool x23.Num_Neg,x23.Num_Mag.v,x23.Kids.v] 27) (fun a24 w=>
 VB t0 ⟨some a24,1,1⟩ (fun(l25:Sl) w=>
 JU t0 5 (⟨#[125]⟩:ByteArray) (fun(x26:Unit) w=>
 JI 43 o0 (⟨#[]⟩:ByteArray) l25 (fun(x27:JA) w=>
 JC r1 x27 (fun w=>
 JG r1 (fun r28=>
 R (r28.v) w) w) w) w) w) w) w) w)
 (JF a21 (fun(x29:JA) w=>
 bx (.cells #[.int .i64 x29.Kind,.int .i64 x29.At,.string x29.Text,.bool x29.Num_Neg,x29.Num_Mag.v,x29.Kids.v] 27) (fun a30 w=>
 VL t0 ⟨some a30,1,1⟩ (fun(l31:Sl) w=>
 JU t0 5 (⟨#[125]⟩:ByteArray) (fun(x32:Unit) w=>
 JI 38 o0 (⟨#[]⟩:ByteArray) l31 (fun(x33:JA) w=>
 JC r1 x33 (fun w=>
 JG r1 (fun r34=>
 R (r34.v) w) w) w) w) w) w) w) w)) w) w) w) w)∧
 (bx (.cells #[.int .i64 0,.int .i64 0,.string (⟨#[]⟩:ByteArray),.bool false,.slice none 0 0,.slice none 0 0] 27) (fun a35 w=>
 S15 w∧
 JI 39 i16 (⟨#[]⟩:ByteArray) ⟨some a19,2,2⟩ (fun(x36:JA) w=>
 S15 w∧
 JC a35 x36 (fun w=>
 XJ t0 (⟨#[102,111,114]⟩:ByteArray) (fun(b37:Bool) w=>
 br (b37)
 (JF a35 (fun(x38:JA) w=>
 bx (.cells #[.int .i64 x38.Kind,.int .i64 x38.At,.string x38.Text,.bool x38.Num_Neg,x38.Num_Mag.v,x38.Kids.v] 27) (fun a39 w=>
 VB t0 ⟨some a39,1,1⟩ (fun(l40:Sl) w=>
 JU t0 5 (⟨#[125]⟩:ByteArray) (fun(x41:Unit) w=>
 JI 43 o0 (⟨#[]⟩:ByteArray) l40 (fun(x42:JA) w=>
 JC r1 x42 (fun w=>
 JG r1 (fun r43=>
 R (r43.v) w) w) w) w) w) w) w) w)
 (JF a35 (fun(x44:JA) w=>
 bx (.cells #[.int .i64 x44.Kind,.int .i64 x44.At,.string x44.Text,.bool x44.Num_Neg,x44.Num_Mag.v,x44.Kids.v] 27) (fun a45 w=>
 VL t0 ⟨some a45,1,1⟩ (fun(l46:Sl) w=>
 JU t0 5 (⟨#[125]⟩:ByteArray) (fun(x47:Unit) w=>
 JI 38 o0 (⟨#[]⟩:ByteArray) l46 (fun(x48:JA) w=>
 JC r1 x48 (fun w=>
 JG r1 (fun r49=>
 R (r49.v) w) w) w) w) w) w) w) w)) w) w) w) w)) w)∧
 (bx (.cells #[.int .i64 0,.int .i64 0,.string (⟨#[]⟩:ByteArray),.bool false,.slice none 0 0,.slice none 0 0] 27) (fun a50 w=>
 S15 w∧
 bx (.cells #[.int .i64 x17.Kind,.int .i64 x17.At,.string x17.Text,.bool x17.Num_Neg,x17.Num_Mag.v,x17.Kids.v,.int .i64 x18.Kind,.int .i64 x18.At,.string x18.Text,.bool x18.Num_Neg,x18.Num_Mag.v,x18.Kids.v] 27) (fun a51 w=>
 S15 w∧
 JI 39 i16 (⟨#[]⟩:ByteArray) ⟨some a51,2,2⟩ (fun(x52:JA) w=>
 S15 w∧
 JC a50 x52 (fun w=>
 XJ t0 (⟨#[102,111,114]⟩:ByteArray) (fun(b53:Bool) w=>
 br (b53)
 (JF a50 (fun(x54:JA) w=>
 bx (.cells #[.int .i64 x54.Kind,.int .i64 x54.At,.string x54.Text,.bool x54.Num_Neg,x54.Num_Mag.v,x54.Kids.v] 27) (fun a55 w=>
 VB t0 ⟨some a55,1,1⟩ (fun(l56:Sl) w=>
 JU t0 5 (⟨#[125]⟩:ByteArray) (fun(x57:Unit) w=>
 JI 43 o0 (⟨#[]⟩:ByteArray) l56 (fun(x58:JA) w=>
 JC r1 x58 (fun w=>
 JG r1 (fun r59=>
 R (r59.v) w) w) w) w) w) w) w) w)
 (JF a50 (fun(x60:JA) w=>
 bx (.cells #[.int .i64 x60.Kind,.int .i64 x60.At,.string x60.Text,.bool x60.Num_Neg,x60.Num_Mag.v,x60.Kids.v] 27) (fun a61 w=>
 VL t0 ⟨some a61,1,1⟩ (fun(l62:Sl) w=>
 JU t0 5 (⟨#[125]⟩:ByteArray) (fun(x63:Unit) w=>
 JI 38 o0 (⟨#[]⟩:ByteArray) l62 (fun(x64:JA) w=>
 JC r1 x64 (fun w=>
 JG r1 (fun r65=>
 R (r65.v) w) w) w) w) w) w) w) w)) w) w) w) w) w)) w)∧
 (bx (.cells #[.int .i64 0,.int .i64 0,.string (⟨#[]⟩:ByteArray),.bool false,.slice none 0 0,.slice none 0 0] 27) (fun a66 w=>
 S15 w∧
 QJ t0 (fun(x67:JA) w=>
 S15 w∧
 bx (.cells #[.int .i64 x17.Kind,.int .i64 x17.At,.string x17.Text,.bool x17.Num_Neg,x17.Num_Mag.v,x17.Kids.v,.int .i64 x67.Kind,.int .i64 x67.At,.string x67.Text,.bool x67.Num_Neg,x67.Num_Mag.v,x67.Kids.v] 27) (fun a68 w=>
 S15 w∧
 JI 39 i16 (⟨#[]⟩:ByteArray) ⟨some a68,2,2⟩ (fun(x69:JA) w=>
 S15 w∧
 JC a66 x69 (fun w=>
 XJ t0 (⟨#[102,111,114]⟩:ByteArray) (fun(b70:Bool) w=>
 br (b70)
 (JF a66 (fun(x71:JA) w=>
 bx (.cells #[.int .i64 x71.Kind,.int .i64 x71.At,.string x71.Text,.bool x71.Num_Neg,x71.Num_Mag.v,x71.Kids.v] 27) (fun a72 w=>
 VB t0 ⟨some a72,1,1⟩ (fun(l73:Sl) w=>
 JU t0 5 (⟨#[125]⟩:ByteArray) (fun(x74:Unit) w=>
 JI 43 o0 (⟨#[]⟩:ByteArray) l73 (fun(x75:JA) w=>
 JC r1 x75 (fun w=>
 JG r1 (fun r76=>
 R (r76.v) w) w) w) w) w) w) w) w)
 (JF a66 (fun(x77:JA) w=>
 bx (.cells #[.int .i64 x77.Kind,.int .i64 x77.At,.string x77.Text,.bool x77.Num_Neg,x77.Num_Mag.v,x77.Kids.v] 27) (fun a78 w=>
 VL t0 ⟨some a78,1,1⟩ (fun(l79:Sl) w=>
 JU t0 5 (⟨#[125]⟩:ByteArray) (fun(x80:Unit) w=>
 JI 38 o0 (⟨#[]⟩:ByteArray) l79 (fun(x81:JA) w=>
 JC r1 x81 (fun w=>
 JG r1 (fun r82=>
 R (r82.v) w) w) w) w) w) w) w) w)) w) w) w) w) w) w)) w)
 (XJ t0 (⟨#[102,111,114]⟩:ByteArray) (fun(b83:Bool) w=>
 br (b83)
 (JF y13 (fun(x84:JA) w=>
 bx (.cells #[.int .i64 x84.Kind,.int .i64 x84.At,.string x84.Text,.bool x84.Num_Neg,x84.Num_Mag.v,x84.Kids.v] 27) (fun a85 w=>
 VB t0 ⟨some a85,1,1⟩ (fun(l86:Sl) w=>
 JU t0 5 (⟨#[125]⟩:ByteArray) (fun(x87:Unit) w=>
 JI 42 o0 (⟨#[]⟩:ByteArray) l86 (fun(x88:JA) w=>
 JC r1 x88 (fun w=>
 JG r1 (fun r89=>
 R (r89.v) w) w) w) w) w) w) w) w)
 (JF y13 (fun(x90:JA) w=>
 bx (.cells #[.int .i64 x90.Kind,.int .i64 x90.At,.string x90.Text,.bool x90.Num_Neg,x90.Num_Mag.v,x90.Kids.v] 27) (fun a91 w=>
 GH t0 ⟨some a91,1,1⟩ (fun(l92:Sl) w=>
 JU t0 5 (⟨#[125]⟩:ByteArray) (fun(x93:Unit) w=>
 JI 37 o0 (⟨#[]⟩:ByteArray) l92 (fun(x94:JA) w=>
 JC r1 x94 (fun w=>
 JG r1 (fun r95=>
 R (r95.v) w) w) w) w) w) w) w) w)) w)) w) w) w) w)) w)) w) w
theorem AbY(t0:Option Addr)(o0:Int)(K:JA→World→Prop)(w:World)(h:RH t0 o0 (Rt (JQ) K) w):IA t0 o0 K w:=
  fnc (A:=[]) (by kernel_rfl) Tryz.func246 Tryz.ntmps246 rfl h
noncomputable def VI(R:Value→World→Prop)(s9:Option Addr)(x10:Addr)(e11:Addr)(op12:ByteArray)(w:World):Prop:=
 dw (fun w=>
 ∃ S13:World→Prop,S13 w∧
 QG S13 (e11.add 1) fun(i14:Int)=>
 QB S13 e11 fun(x15:JA)=>
 UV s9 4 (fun(x16:JA) w=>
 S13 w∧
 bx (.cells #[.int .i64 x15.Kind,.int .i64 x15.At,.string x15.Text,.bool x15.Num_Neg,x15.Num_Mag.v,x15.Kids.v,.int .i64 x16.Kind,.int .i64 x16.At,.string x16.Text,.bool x16.Num_Neg,x16.Num_Mag.v,x16.Kids.v] 27) (fun a17 w=>
 S13 w∧
 JI 48 i14 op12 ⟨some a17,2,2⟩ (fun(x18:JA) w=>
 JC x10 x18 (fun w=>
 JG x10 (fun r19=>
 R (r19.v) w) w) w) w) w) w) w
noncomputable def LY(s0:Option Addr)(R:Value→World→Prop)(w:World):Prop:=
 bx (.cells #[.int .i64 0,.int .i64 0,.string (⟨#[]⟩:ByteArray),.bool false,.slice none 0 0,.slice none 0 0] 27) (fun a1 w=>
 UV s0 4 (fun(x2:JA) w=>
 bx (.cells #[.int .i64 0,.int .i64 0,.string (⟨#[]⟩:ByteArray),.bool false,.slice none 0 0,.slice none 0 0] 27) (fun e3 w=>
 JC e3 x2 (fun w=>
 bx (.cells #[.string (⟨#[61,61]⟩:ByteArray),.string (⟨#[33,61]⟩:ByteArray),.string (⟨#[60]⟩:ByteArray),.string (⟨#[60,61]⟩:ByteArray),.string (⟨#[62]⟩:ByteArray),.string (⟨#[62,61]⟩:ByteArray)] 9) (fun a4 w=>
 VR s0 ⟨some a4,6,6⟩ (fun(s5:ByteArray) w=>
 br (!(s5.toList==(⟨#[]⟩:ByteArray).toList))
 (nn s0 fun a6=>
 JK (a6.add 1) (fun(i7:Int) w=>
 nn s0 fun a8=>
 YX (a8.add 1) (IntKind.i64.wrap (i7+1)) (fun w=>
 VI R s0 a1 e3 s5 w) w) w)
 (JJ s0 2 (⟨#[105,110]⟩:ByteArray) (fun(b20:Bool) w=>
 br (b20)
 (VI R s0 a1 e3 (⟨#[105,110]⟩:ByteArray) w)
 (JJ s0 2 (⟨#[110,111,116]⟩:ByteArray) (fun(b21:Bool) w=>
 br (b21)
 (JU s0 2 (⟨#[105,110]⟩:ByteArray) (fun(x22:Unit) w=>
 VI R s0 a1 e3 (⟨#[110,111,116,32,105,110]⟩:ByteArray) w) w)
 (JJ s0 2 (⟨#[105,115]⟩:ByteArray) (fun(b23:Bool) w=>
 br (b23)
 (JJ s0 2 (⟨#[110,111,116]⟩:ByteArray) (fun(b24:Bool) w=>
 br (b24)
 (VI R s0 a1 e3 (⟨#[105,115,32,110,111,116]⟩:ByteArray) w)
 (VI R s0 a1 e3 (⟨#[105,115]⟩:ByteArray) w)) w)
 (JF e3 (fun(x25:JA) w=>
 JC a1 x25 (fun w=>
 JG a1 (fun r26=>
 R (r26.v) w) w) w) w)) w)) w)) w)) w) w) w) w) w) w
theorem AaM(s0:Option Addr)(K:JA→World→Prop)(w:World)(h:LY s0 (Rt (JQ) K) w):EO s0 K w:=
  fnc (A:=[]) (by kernel_rfl) Tryz.func252 Tryz.ntmps252 rfl h
noncomputable def TI(s0:Option Addr)(l0:Sl)(R:Value→World→Prop)(w:World):Prop:=
 JU s0 2 (⟨#[102,111,114]⟩:ByteArray) (fun(x1:Unit) w=>
 DR s0 (fun(x2:JA) w=>
 bx (.cells #[.int .i64 x2.Kind,.int .i64 x2.At,.string x2.Text,.bool x2.Num_Neg,x2.Num_Mag.v,x2.Kids.v] 27) (fun a3 w=>
 rn (Builtin.append_ #[25,25] 25 #[l0.v,.slice (some a3) 1 1]) (hSl) (fun(l4:Sl) w=>
 JU s0 2 (⟨#[105,110]⟩:ByteArray) (fun(x5:Unit) w=>
 DX s0 (fun(x6:JA) w=>
 bx (.cells #[.int .i64 x6.Kind,.int .i64 x6.At,.string x6.Text,.bool x6.Num_Neg,x6.Num_Mag.v,x6.Kids.v] 27) (fun a7 w=>
 rn (Builtin.append_ #[25,25] 25 #[l4.v,.slice (some a7) 1 1]) (hSl) (fun(l8:Sl) w=>
 Lp (α:=Sl) (fun l9=>[l9.v]) [l8.v] (fun l9 again10 w=>
 JJ s0 2 (⟨#[105,102]⟩:ByteArray) (fun(b11:Bool) w=>
 br (b11)
 (DX s0 (fun(x12:JA) w=>
 bx (.cells #[.int .i64 x12.Kind,.int .i64 x12.At,.string x12.Text,.bool x12.Num_Neg,x12.Num_Mag.v,x12.Kids.v] 27) (fun a13 w=>
 rn (Builtin.append_ #[25,25] 25 #[l9.v,.slice (some a13) 1 1]) (hSl) (fun(l14:Sl) w=>
 again10 [l14.v] w) w) w) w)
 (R (l9.v) w)) w) w) w) w) w) w) w) w) w) w
theorem Ac7(s0:Option Addr)(l0:Sl)(K:Sl→World→Prop)(w:World)(h:TI s0 l0 (Rt (hSl) K) w):VB s0 l0 K w:=
  fnc (A:=[(5,[(1,hSl)])]) (by kernel_rfl) Tryz.func253 Tryz.ntmps253 rfl h
noncomputable def BE(again2:List Value→World→Prop)(s6:Option Addr)(l7:Sl)(w:World):Prop:=
 ED s6 (fun(x8:JA) w=>
 bx (.cells #[.int .i64 x8.Kind,.int .i64 x8.At,.string x8.Text,.bool x8.Num_Neg,x8.Num_Mag.v,x8.Kids.v] 27) (fun a9 w=>
 rn (Builtin.append_ #[25,25] 25 #[l7.v,.slice (some a9) 1 1]) (hSl) (fun(l10:Sl) w=>
 again2 [l10.v] w) w) w) w
noncomputable def RK(s0:Option Addr)(l0:Sl)(R:Value→World→Prop)(w:World):Prop:=
 Lp (α:=Sl) (fun l1=>[l1.v]) [l0.v] (fun l1 again2 w=>
 JJ s0 5 (⟨#[44]⟩:ByteArray) (fun(b3:Bool) w=>
 br (b3)
 (XD s0 (fun(b4:Bool) w=>
 br (!b4)
 (VD s0 (⟨#[42,42]⟩:ByteArray) (fun(b5:Bool) w=>
 br (!b5)
 (R (l1.v) w)
 (BE again2 s0 l1 w)) w)
 (BE again2 s0 l1 w)) w)
 (R (l1.v) w)) w) w
theorem Ab1(s0:Option Addr)(l0:Sl)(K:Sl→World→Prop)(w:World)(h:RK s0 l0 (Rt (hSl) K) w):VL s0 l0 K w:=
  fnc (A:=[(1,[(1,hSl)])]) (by kernel_rfl) Tryz.func254 Tryz.ntmps254 rfl h
noncomputable def TK(s0:Option Addr)(R:Value→World→Prop)(w:World):Prop:=
 bx (.cells #[.int .i64 0,.int .i64 0,.string (⟨#[]⟩:ByteArray),.bool false,.slice none 0 0,.slice none 0 0] 27) (fun a1 w=>
 QW s0 (fun(x2:JN) w=>
 JJ s0 5 (⟨#[42,42]⟩:ByteArray) (fun(b3:Bool) w=>
 br (b3)
 (QJ s0 (fun(x4:JA) w=>
 bx (.cells #[.int .i64 x4.Kind,.int .i64 x4.At,.string x4.Text,.bool x4.Num_Neg,x4.Num_Mag.v,x4.Kids.v] 27) (fun a5 w=>
 JI 40 x2.At (⟨#[]⟩:ByteArray) ⟨some a5,1,1⟩ (fun(x6:JA) w=>
 JC a1 x6 (fun w=>
 JG a1 (fun r7=>
 R (r7.v) w) w) w) w) w) w)
 (QJ s0 (fun(x8:JA) w=>
 bx (.cells #[.int .i64 0,.int .i64 0,.string (⟨#[]⟩:ByteArray),.bool false,.slice none 0 0,.slice none 0 0] 27) (fun k9 w=>
 JC k9 x8 (fun w=>
 JU s0 5 (⟨#[58]⟩:ByteArray) (fun(x10:Unit) w=>
 dw (fun w=>
 ∃ S11:World→Prop,S11 w∧
 QG S11 (k9.add 1) fun(i12:Int)=>
 QB S11 k9 fun(x13:JA)=>
 QJ s0 (fun(x14:JA) w=>
 S11 w∧
 bx (.cells #[.int .i64 x13.Kind,.int .i64 x13.At,.string x13.Text,.bool x13.Num_Neg,x13.Num_Mag.v,x13.Kids.v,.int .i64 x14.Kind,.int .i64 x14.At,.string x14.Text,.bool x14.Num_Neg,x14.Num_Mag.v,x14.Kids.v] 27) (fun a15 w=>
 S11 w∧
 JI 39 i12 (⟨#[]⟩:ByteArray) ⟨some a15,2,2⟩ (fun(x16:JA) w=>
 JC a1 x16 (fun w=>
 JG a1 (fun r17=>
 R (r17.v) w) w) w) w) w) w) w) w) w) w) w)) w) w) w
theorem Ac9(s0:Option Addr)(K:JA→World→Prop)(w:World)(h:TK s0 (Rt (JQ) K) w):ED s0 K w:=
  fnc (A:=[]) (by kernel_rfl) Tryz.func255 Tryz.ntmps255 rfl h
noncomputable def UB(R:Value→World→Prop)(again7:List Value→World→Prop)(s11:Option Addr)(n12:Int)(x13:Addr)(e14:Addr)(op15:ByteArray)(w:World):Prop:=
 br ((op15.toList==(⟨#[]⟩:ByteArray).toList))
 (JF e14 (fun(x16:JA) w=>
 JC x13 x16 (fun w=>
 JG x13 (fun r17=>
 R (r17.v) w) w) w) w)
 (nn s11 fun a18=>
 JK (a18.add 1) (fun(i19:Int) w=>
 nn s11 fun a20=>
 YX (a20.add 1) (IntKind.i64.wrap (i19+1)) (fun w=>
 dw (fun w=>
 ∃ S21:World→Prop,S21 w∧
 QG S21 (e14.add 1) fun(i22:Int)=>
 QB S21 e14 fun(x23:JA)=>
 UV s11 (IntKind.i64.wrap (n12 - 1)) (fun(x24:JA) w=>
 S21 w∧
 bx (.cells #[.int .i64 x23.Kind,.int .i64 x23.At,.string x23.Text,.bool x23.Num_Neg,x23.Num_Mag.v,x23.Kids.v,.int .i64 x24.Kind,.int .i64 x24.At,.string x24.Text,.bool x24.Num_Neg,x24.Num_Mag.v,x24.Kids.v] 27) (fun a25 w=>
 S21 w∧
 JI 49 i22 op15 ⟨some a25,2,2⟩ (fun(x26:JA) w=>
 JC e14 x26 (fun w=>
 again7 [] w) w) w) w) w) w) w) w)
noncomputable def Aau(s0:Option Addr)(n0:Int)(R:Value→World→Prop)(w:World):Prop:=
 bx (.cells #[.int .i64 0,.int .i64 0,.string (⟨#[]⟩:ByteArray),.bool false,.slice none 0 0,.slice none 0 0] 27) (fun a1 w=>
 br (decide (n0<(0:Int)))
 (AE s0 (fun(x2:JA) w=>
 JC a1 x2 (fun w=>
 JG a1 (fun r3=>
 R (r3.v) w) w) w) w)
 (UV s0 (IntKind.i64.wrap (n0 - 1)) (fun(x4:JA) w=>
 bx (.cells #[.int .i64 0,.int .i64 0,.string (⟨#[]⟩:ByteArray),.bool false,.slice none 0 0,.slice none 0 0] 27) (fun e5 w=>
 JC e5 x4 (fun w=>
 Lp (α:=Unit) (fun u6=>[]) [] (fun u6 again7 w=>
 YM s0 (fun(b8:Bool) w=>
 br (!b8)
 (br (n0==(0:Int))
 (bx (.cells #[.string (⟨#[42]⟩:ByteArray),.string (⟨#[47,47]⟩:ByteArray),.string (⟨#[37]⟩:ByteArray)] 9) (fun a9 w=>
 VR s0 ⟨some a9,3,3⟩ (fun(s10:ByteArray) w=>
 UB R again7 s0 n0 a1 e5 s10 w) w) w)
 (br (n0==(1:Int))
 (bx (.cells #[.string (⟨#[43]⟩:ByteArray),.string (⟨#[45]⟩:ByteArray)] 9) (fun a27 w=>
 VR s0 ⟨some a27,2,2⟩ (fun(s28:ByteArray) w=>
 UB R again7 s0 n0 a1 e5 s28 w) w) w)
 (br (n0==(2:Int))
 (bx (.cells #[.string (⟨#[38]⟩:ByteArray)] 9) (fun a29 w=>
 VR s0 ⟨some a29,1,1⟩ (fun(s30:ByteArray) w=>
 UB R again7 s0 n0 a1 e5 s30 w) w) w)
 (br (n0==(3:Int))
 (bx (.cells #[.string (⟨#[94]⟩:ByteArray)] 9) (fun a31 w=>
 VR s0 ⟨some a31,1,1⟩ (fun(s32:ByteArray) w=>
 UB R again7 s0 n0 a1 e5 s32 w) w) w)
 (bx (.cells #[.string (⟨#[124]⟩:ByteArray)] 9) (fun a33 w=>
 VR s0 ⟨some a33,1,1⟩ (fun(s34:ByteArray) w=>
 UB R again7 s0 n0 a1 e5 s34 w) w) w)))))
 (JF e5 (fun(x35:JA) w=>
 JC a1 x35 (fun w=>
 JG a1 (fun r36=>
 R (r36.v) w) w) w) w)) w) w) w) w) w)) w
theorem AdD(s0:Option Addr)(n0:Int)(K:JA→World→Prop)(w:World)(h:Aau s0 n0 (Rt (JQ) K) w):UV s0 n0 K w:=
  fnc (A:=[(4,[])]) (by kernel_rfl) Tryz.func258 Tryz.ntmps258 rfl h
noncomputable def RL(s0:Option Addr)(R:Value→World→Prop)(w:World):Prop:=
 bx (.cells #[.int .i64 0,.int .i64 0,.string (⟨#[]⟩:ByteArray),.bool false,.slice none 0 0,.slice none 0 0] 27) (fun a1 w=>
 QW s0 (fun(x2:JN) w=>
 JJ s0 5 (⟨#[45]⟩:ByteArray) (fun(b3:Bool) w=>
 br (b3)
 (AE s0 (fun(x4:JA) w=>
 bx (.cells #[.int .i64 x4.Kind,.int .i64 x4.At,.string x4.Text,.bool x4.Num_Neg,x4.Num_Mag.v,x4.Kids.v] 27) (fun a5 w=>
 JI 50 x2.At (⟨#[]⟩:ByteArray) ⟨some a5,1,1⟩ (fun(x6:JA) w=>
 JC a1 x6 (fun w=>
 JG a1 (fun r7=>
 R (r7.v) w) w) w) w) w) w)
 (VO s0 (fun(x8:JA) w=>
 JC a1 x8 (fun w=>
 JG a1 (fun r9=>
 R (r9.v) w) w) w) w)) w) w) w
theorem Ab2(s0:Option Addr)(K:JA→World→Prop)(w:World)(h:RL s0 (Rt (JQ) K) w):AE s0 K w:=
  fnc (A:=[]) (by kernel_rfl) Tryz.func259 Tryz.ntmps259 rfl h
end Go.Proofs.YtjiagmjfnbljjaaGreatDoor
end
section
namespace Go.Proofs.YtjiagmjfnbljjaaGreatDoor
open Go
set_option linter.unusedVariables false
set_option maxRecDepth 100000
noncomputable def AgQ(n0:JA)(R:Value→World→Prop)(w:World):Prop:=
 bx (.cells n0.cells 27) (fun n1 w=>
 JF n1 (fun(x2:JA) w=>
 Ach x2 (fun(i3:Int) w=>
 br (decide (i3 > (300:Int)))
 (R (.int .i64 11) w)
 (JK n1 (fun(i4:Int) w=>
 br (i4 != (1:Int))
 (R (.int .i64 11) w)
 (JF n1 (fun(x5:JA) w=>
 GX x5 (fun(b6:Bool) w=>
 br (!b6)
 (R (.int .i64 11) w)
 (R (.int .i64 0) w)) w) w)) w)) w) w) w
theorem Ai7(n0:JA)(K:Int→World→Prop)(w:World)(h:AgQ n0 (Rt (QC .i64) K) w):Acg n0 K w:=
  fnc (A:=[]) (by kernel_rfl) Tryz.func17 Tryz.ntmps17 rfl h
noncomputable def AgR(n0:JA)(R:Value→World→Prop)(w:World):Prop:=
 bx (.cells n0.cells 27) (fun n1 w=>
 bx (.cells #[.int .i64 0] 3) (fun d2 w=>
 YX d2 0 (fun w=>
 JF n1 (fun(x3:JA) w=>
 Aal 0 x3 ⟨83,#[.pointer (some d2)]⟩ (fun(b4:Bool) w=>
 JK d2 (fun(i5:Int) w=>
 R (.int .i64 i5) w) w) w) w) w) w) w
theorem Ai8(n0:JA)(K:Int→World→Prop)(w:World)(h:AgR n0 (Rt (QC .i64) K) w):Ach n0 K w:=
  fnc (A:=[]) (by kernel_rfl) Tryz.func37 Tryz.ntmps37 rfl h
noncomputable def AcR(R:Value→World→Prop)(n10:Addr)(f11:Addr)(w:World):Prop:=
 JK n10 (fun(i12:Int) w=>
 br (i12==(32:Int))
 (Acs (n10.add 3) (fun(x13:ZP) w=>
 AaT x13 (fun(b14:Bool) w=>
 br (b14)
 (LL (f11.add 1) (fun(x15:Value) w=>
 JF n10 (fun(x16:JA) w=>
 clv (x15) #[x16.v] (JS) (fun(b17:Bool) w=>
 R (.bool b17) w) w) w) w)
 (R (.bool false) w)) w) w)
 (JF n10 (fun(x18:JA) w=>
 SE x18 (fun(b19:Bool) w=>
 br (b19)
 (LL (f11.add 1) (fun(x20:Value) w=>
 JF n10 (fun(x21:JA) w=>
 clv (x20) #[x21.v] (JS) (fun(b22:Bool) w=>
 R (.bool b22) w) w) w) w)
 (R (.bool false) w)) w) w)) w
noncomputable def Acj(n0:JA)(R:Value→World→Prop)(w:World):Prop:=
 bx (.cells n0.cells 27) (fun n1 w=>
 JK n1 (fun(i2:Int) w=>
 KV i2 (fun(x3:YA) w=>
 bx (.cells #[.nilFunc,.nilFunc] 144) (fun f4 w=>
 JX f4 x3 (fun w=>
 LL (f4.add 1) (fun(x5:Value) w=>
 bin .eql 142 (x5) (.nilFunc) (JS) (fun(b6:Bool) w=>
 br (b6)
 (R (.bool false) w)
 (AnQ f4 (fun(x7:Value) w=>
 QO (n1.add 2) (fun(s8:ByteArray) w=>
 clv (x7) #[.string s8] (JS) (fun(b9:Bool) w=>
 br (!b9)
 (R (.bool false) w)
 (AcR R n1 f4 w)) w) w) w)) w) w) w) w) w) w) w
theorem Ajd(n0:JA)(R:Value→World→Prop)(w:World):fnE ((cxv [(141,AoK),(142,AoK)]) 38 []) Tryz.f38 #[n0.v] R w=Acj n0 R w:=by kernel_rfl
theorem Ajc(n0:JA)(K:Bool→World→Prop)(w:World)(h:Acj n0 (Rt (JS) K) w):GX n0 K w:=
  Apy (Ajd n0 (Rt (JS) K) w) Tryz.func38 Tryz.ntmps38 (Nat.le_of_ble_eq_true rfl) h
noncomputable def AiG(at0:Int)(n0:JA)(yield:Fv)(R:Value→World→Prop)(w:World):Prop:=
 bx (.cells n0.cells 27) (fun n1 w=>
 JF n1 (fun(x2:JA) w=>
 clv (yield.v) #[.int .i64 at0,x2.v] (JS) (fun(b3:Bool) w=>
 br (!b3)
 (R (.bool false) w)
 (JZ (n1.add 5) (fun(l4:Sl) w=>
 Lp (α:=Int) (fun x5=>[.int .i64 x5]) [.int .i64 0] (fun x5 again6 w=>
 br (decide (x5<(l4.n:Int)))
 (nn l4.a fun a7=>
 0≤x5∧x5<((l4.n:Nat):Int)∧
 JF (a7.add (x5.toNat * 6)) (fun(x8:JA) w=>
 bx (.cells #[.int .i64 0,.int .i64 0,.string (⟨#[]⟩:ByteArray),.bool false,.slice none 0 0,.slice none 0 0] 27) (fun k9 w=>
 JC k9 x8 (fun w=>
 JF k9 (fun(x10:JA) w=>
 Aal (IntKind.i64.wrap (at0+1)) x10 yield (fun(b11:Bool) w=>
 br (!b11)
 (R (.bool false) w)
 (again6 [.int .i64 (IntKind.i64.wrap (x5+1))] w)) w) w) w) w) w)
 (R (.bool true) w)) w) w)) w) w) w
theorem AjW(at0:Int)(n0:JA)(yield:Fv)(K:Bool→World→Prop)(w:World)(h:AiG at0 n0 yield (Rt (JS) K) w):Aal at0 n0 yield K w:=
  fnc (A:=[(4,[(17,QC .i64)])]) (by kernel_rfl) Tryz.func82 Tryz.ntmps82 rfl h
noncomputable def AdU(at0:Int)(p1:JA)(c2:Addr)(R:Value→World→Prop)(w:World):Prop:=
 bx (.cells p1.cells 27) (fun a1 w=>
 JK c2 (fun(i2:Int) w=>
 rn (Builtin.max_ #[3,3] 3 #[.int .i64 i2,.int .i64 (IntKind.i64.wrap (at0+1))]) (QC .i64) (fun(i3:Int) w=>
 YX c2 i3 (fun w=>
 R (.bool true) w) w) w) w) w
theorem AgD(at0:Int)(p1:JA)(c2:Addr)(K:Bool→World→Prop)(w:World)(h:AdU at0 p1 c2 (Rt (JS) K) w):AdG at0 p1 c2 K w:=
  fnc (A:=[]) (by kernel_rfl) Tryz.func83 Tryz.ntmps83 rfl h
noncomputable def CC(R:Value→World→Prop)(t41:Int)(A42:Addr)(y43:Int)(x44:Bool)(w:World):Prop:=
 br (x44)
 (BY 31 (fun(x45:Fv) w=>
 IT 1 x45 (fun(x46:Fv) w=>
 JX A42 ⟨.func (.func 123) #[] #[],x46.v⟩ (fun w=>
 QA A42 (fun r47=>
 R (r47.v) w) w) w) w) w)
 (br (y43==(15:Int))
 (bx (.cells #[.func (.func 131) #[] #[],.func (.func 132) #[] #[]] 142) (fun a48 w=>
 BZ ⟨some a48,2,2⟩ (fun(x49:Fv) w=>
 bx (.cells #[.func (.func 128) #[] #[],.func (.func 132) #[] #[],x49.v] 142) (fun a50 w=>
 YB ⟨some a50,3,3⟩ (fun(x51:Fv) w=>
 JX A42 ⟨.func (.func 123) #[] #[],x51.v⟩ (fun w=>
 QA A42 (fun r52=>
 R (r52.v) w) w) w) w) w) w) w)
 (br (y43==(16:Int))
 (bx (.cells #[.func (.func 128) #[] #[],.func (.func 132) #[] #[]] 142) (fun a53 w=>
 YB ⟨some a53,2,2⟩ (fun(x54:Fv) w=>
 JX A42 ⟨.func (.func 123) #[] #[],x54.v⟩ (fun w=>
 QA A42 (fun r55=>
 R (r55.v) w) w) w) w) w)
 (br (y43==(17:Int))
 (bx (.cells #[.func (.func 133) #[] #[],.func (.func 128) #[] #[],.func (.func 132) #[] #[]] 142) (fun a56 w=>
 YB ⟨some a56,3,3⟩ (fun(x57:Fv) w=>
 JX A42 ⟨.func (.func 123) #[] #[],x57.v⟩ (fun w=>
 QA A42 (fun r58=>
 R (r58.v) w) w) w) w) w)
 (br (y43==(18:Int))
 (JX A42 ⟨.func (.func 134) #[] #[],.func (.func 135) #[] #[]⟩ (fun w=>
 QA A42 (fun r59=>
 R (r59.v) w) w) w)
 (br (y43==(19:Int))
 (JX A42 ⟨.func (.func 134) #[] #[],.func (.func 136) #[] #[]⟩ (fun w=>
 QA A42 (fun r60=>
 R (r60.v) w) w) w)
 (br (y43==(20:Int))
 (bx (.cells #[.func (.func 131) #[] #[],.func (.func 128) #[] #[]] 142) (fun a61 w=>
 BZ ⟨some a61,2,2⟩ (fun(x62:Fv) w=>
 bx (.cells #[x62.v,.func (.func 132) #[] #[]] 142) (fun a63 w=>
 YB ⟨some a63,2,2⟩ (fun(x64:Fv) w=>
 JX A42 ⟨.func (.func 134) #[] #[],x64.v⟩ (fun w=>
 QA A42 (fun r65=>
 R (r65.v) w) w) w) w) w) w) w)
 (br (y43==(21:Int))
 (JX A42 ⟨.func (.func 123) #[] #[],.func (.func 137) #[] #[]⟩ (fun w=>
 QA A42 (fun r66=>
 R (r66.v) w) w) w)
 (br (y43==(22:Int))
 (JX A42 ⟨.func (.func 138) #[] #[],.func (.func 139) #[] #[]⟩ (fun w=>
 QA A42 (fun r67=>
 R (r67.v) w) w) w)
 (br (y43==(23:Int))
 (IT 2 ⟨129,#[]⟩ (fun(x68:Fv) w=>
 JX A42 ⟨.func (.func 123) #[] #[],x68.v⟩ (fun w=>
 QA A42 (fun r69=>
 R (r69.v) w) w) w) w)
 (KC t41 (fun(x70:YA) w=>
 JX A42 x70 (fun w=>
 QA A42 (fun r71=>
 R (r71.v) w) w) w) w))))))))))
noncomputable def CB(R:Value→World→Prop)(t32:Int)(A33:Addr)(y34:Int)(x35:Bool)(w:World):Prop:=
 br (x35)
 (bx (.cells #[.func (.func 131) #[] #[],.func (.func 128) #[] #[]] 142) (fun a36 w=>
 BZ ⟨some a36,2,2⟩ (fun(x37:Fv) w=>
 bx (.cells #[x37.v] 142) (fun a38 w=>
 YB ⟨some a38,1,1⟩ (fun(x39:Fv) w=>
 JX A33 ⟨.func (.func 123) #[] #[],x39.v⟩ (fun w=>
 QA A33 (fun r40=>
 R (r40.v) w) w) w) w) w) w) w)
 (br (y34==(13:Int))
 (CC R t32 A33 y34 (y34==(13:Int)) w)
 (CC R t32 A33 y34 (y34==(14:Int)) w))
noncomputable def HH(R:Value→World→Prop)(t26:Int)(A27:Addr)(y28:Int)(x29:Bool)(w:World):Prop:=
 br (x29)
 (YB ⟨none,0,0⟩ (fun(x30:Fv) w=>
 JX A27 ⟨.func (.func 123) #[] #[],x30.v⟩ (fun w=>
 QA A27 (fun r31=>
 R (r31.v) w) w) w) w)
 (br (y28==(11:Int))
 (CB R t26 A27 y28 (y28==(11:Int)) w)
 (CB R t26 A27 y28 (y28==(12:Int)) w))
noncomputable def Aaw(t0:Int)(R:Value→World→Prop)(w:World):Prop:=
 bx (.cells #[.nilFunc,.nilFunc] 144) (fun A1 w=>
 bx (.cells #[.string (⟨#[43]⟩:ByteArray),.string (⟨#[45]⟩:ByteArray),.string (⟨#[42]⟩:ByteArray),.string (⟨#[47,47]⟩:ByteArray),.string (⟨#[37]⟩:ByteArray),.string (⟨#[38]⟩:ByteArray),.string (⟨#[124]⟩:ByteArray),.string (⟨#[94]⟩:ByteArray)] 9) (fun a2 w=>
 KL ⟨some a2,8,8⟩ (fun(a3:Fv) w=>
 br (t0==(1:Int))
 (BY 2 (fun(x4:Fv) w=>
 bx (.cells #[x4.v] 142) (fun a5 w=>
 YB ⟨some a5,1,1⟩ (fun(x6:Fv) w=>
 JX A1 ⟨.func (.func 123) #[] #[],x6.v⟩ (fun w=>
 QA A1 (fun r7=>
 R (r7.v) w) w) w) w) w) w)
 (br (t0==(2:Int))
 (IT 0 ⟨127,#[]⟩ (fun(x8:Fv) w=>
 JX A1 ⟨.func (.func 123) #[] #[],x8.v⟩ (fun w=>
 QA A1 (fun r9=>
 R (r9.v) w) w) w) w)
 (br (t0==(3:Int))
 (bx (.cells #[.func (.func 128) #[] #[]] 142) (fun a10 w=>
 YB ⟨some a10,1,1⟩ (fun(x11:Fv) w=>
 JX A1 ⟨.func (.func 123) #[] #[],x11.v⟩ (fun w=>
 QA A1 (fun r12=>
 R (r12.v) w) w) w) w) w)
 (br (t0==(4:Int))
 (bx (.cells #[.func (.func 129) #[] #[],.func (.func 128) #[] #[]] 142) (fun a13 w=>
 YB ⟨some a13,2,2⟩ (fun(x14:Fv) w=>
 JX A1 ⟨.func (.func 123) #[] #[],x14.v⟩ (fun w=>
 QA A1 (fun r15=>
 R (r15.v) w) w) w) w) w)
 (br (t0==(5:Int))
 (BY 23 (fun(x16:Fv) w=>
 bx (.cells #[x16.v,.func (.func 128) #[] #[]] 142) (fun a17 w=>
 YB ⟨some a17,2,2⟩ (fun(x18:Fv) w=>
 JX A1 ⟨.func (.func 123) #[] #[],x18.v⟩ (fun w=>
 QA A1 (fun r19=>
 R (r19.v) w) w) w) w) w) w)
 (br (t0==(6:Int))
 (bx (.cells #[.func (.func 129) #[] #[],.func (.func 128) #[] #[]] 142) (fun a20 w=>
 YB ⟨some a20,2,2⟩ (fun(x21:Fv) w=>
 JX A1 ⟨a3.v,x21.v⟩ (fun w=>
 QA A1 (fun r22=>
 R (r22.v) w) w) w) w) w)
 (br (t0==(7:Int))
 (bx (.cells #[.func (.func 129) #[] #[]] 142) (fun a23 w=>
 YB ⟨some a23,1,1⟩ (fun(x24:Fv) w=>
 JX A1 ⟨.func (.func 123) #[] #[],x24.v⟩ (fun w=>
 QA A1 (fun r25=>
 R (r25.v) w) w) w) w) w)
 (br (t0==(8:Int))
 (HH R t0 A1 t0 (t0==(8:Int)) w)
 (br (t0==(9:Int))
 (HH R t0 A1 t0 (t0==(9:Int)) w)
 (HH R t0 A1 t0 (t0==(10:Int)) w)))))))))) w) w) w
theorem AdI(t0:Int)(K:YA→World→Prop)(w:World)(h:Aaw t0 (Rt (AU) K) w):KV t0 K w:=
  fnc (A:=[]) (by kernel_rfl) Tryz.func84 Tryz.ntmps84 rfl h
noncomputable def Afy(x0:ZP)(R:Value→World→Prop)(w:World):Prop:=
 bx (.cells x0.cells 24) (fun x1 w=>
 WK (x1.add 1) (fun(l2:Sl) w=>
 OR x1 (fun(b3:Bool) w=>
 br (!b3)
 (br (decide ((l2.n:Int)≤(256:Int)))
 (br ((l2.n:Int)==(0:Int))
 (R (.bool true) w)
 (WK (x1.add 1) (fun(l4:Sl) w=>
 nn l4.a fun a5=>
 0≤(IntKind.i64.wrap ((l2.n:Int) - 1))∧(IntKind.i64.wrap ((l2.n:Int) - 1))<((l4.n:Nat):Int)∧
 AbB (a5.add ((IntKind.i64.wrap ((l2.n:Int) - 1)).toNat * 1)) (fun(i6:Int) w=>
 R (.bool (i6 != (0:Int))) w) w) w))
 (R (.bool false) w))
 (R (.bool false) w)) w) w) w
theorem AhI(x0:ZP)(K:Bool→World→Prop)(w:World)(h:Afy x0 (Rt (JS) K) w):AaT x0 K w:=
  fnc (A:=[]) (by kernel_rfl) Tryz.func85 Tryz.ntmps85 rfl h
noncomputable def AgT(n0:JA)(R:Value→World→Prop)(w:World):Prop:=
 bx (.cells n0.cells 27) (fun n1 w=>
 OR (n1.add 3) (fun(b2:Bool) w=>
 br (!b2)
 (WK (n1.add 4) (fun(l3:Sl) w=>
 R (.bool ((l3.n:Int)==(0:Int))) w) w)
 (R (.bool false) w)) w) w
theorem Aja(n0:JA)(K:Bool→World→Prop)(w:World)(h:AgT n0 (Rt (JS) K) w):SE n0 K w:=
  fnc (A:=[]) (by kernel_rfl) Tryz.func86 Tryz.ntmps86 rfl h
noncomputable def AiF(l0:Sl)(R:Value→World→Prop)(w:World):Prop:=
 bx (.cells #[l0.v] 76) (fun l1 w=>
 R (.func (.func 173) #[] #[.pointer (some l1)]) w) w
theorem AjU(l0:Sl)(K:Fv→World→Prop)(w:World)(h:AiF l0 (Rt (hFn) K) w):KL l0 K w:=
  fnc (A:=[]) (by kernel_rfl) Tryz.func122 Tryz.ntmps122 rfl h
noncomputable def Afx(s0:ByteArray)(R:Value→World→Prop)(w:World):Prop:=
 R (.bool (s0.toList==(⟨#[]⟩:ByteArray).toList)) w
theorem AhH(s0:ByteArray)(K:Bool→World→Prop)(w:World)(h:Afx s0 (Rt (JS) K) w):Alo s0 K w:=
  fnc (A:=[]) (by kernel_rfl) Tryz.func123 Tryz.ntmps123 rfl h
noncomputable def AiA(shapes:Sl)(R:Value→World→Prop)(w:World):Prop:=
 bx (.cells #[shapes.v] 182) (fun shapes1 w=>
 R (.func (.func 175) #[] #[.pointer (some shapes1)]) w) w
theorem AjP(shapes:Sl)(K:Fv→World→Prop)(w:World)(h:AiA shapes (Rt (hFn) K) w):YB shapes K w:=
  fnc (A:=[]) (by kernel_rfl) Tryz.func124 Tryz.ntmps124 rfl h
noncomputable def AlK(kind:Int)(R:Value→World→Prop)(w:World):Prop:=
 bx (.cells #[.int .i64 kind] 3) (fun kind1 w=>
 R (.func (.func 177) #[] #[.pointer (some kind1)]) w) w
theorem AmF(kind:Int)(K:Fv→World→Prop)(w:World)(h:AlK kind (Rt (hFn) K) w):BY kind K w:=
  fnc (A:=[]) (by kernel_rfl) Tryz.func125 Tryz.ntmps125 rfl h
noncomputable def AiE(least:Int)(s0:Fv)(R:Value→World→Prop)(w:World):Prop:=
 bx (.cells #[.int .i64 least] 3) (fun least1 w=>
 bx (.cells #[s0.v] 142) (fun s2 w=>
 R (.func (.func 178) #[] #[.pointer (some least1),.pointer (some s2)]) w) w) w
theorem AjT(least:Int)(s0:Fv)(K:Fv→World→Prop)(w:World)(h:AiE least s0 (Rt (hFn) K) w):IT least s0 K w:=
  fnc (A:=[]) (by kernel_rfl) Tryz.func126 Tryz.ntmps126 rfl h
noncomputable def Abs(n0:JA)(R:Value→World→Prop)(w:World):Prop:=
 bx (.cells n0.cells 27) (fun n1 w=>
 JK n1 (fun(i2:Int) w=>
 br (decide (i2≥(3:Int)))
 (JK n1 (fun(i3:Int) w=>
 br (decide (i3≤(21:Int)))
 (JK n1 (fun(i4:Int) w=>
 br (i4 != (19:Int))
 (JF n1 (fun(x5:JA) w=>
 GX x5 (fun(b6:Bool) w=>
 R (.bool b6) w) w) w)
 (R (.bool false) w)) w)
 (R (.bool false) w)) w)
 (R (.bool false) w)) w) w
theorem Ae4(n0:JA)(K:Bool→World→Prop)(w:World)(h:Abs n0 (Rt (JS) K) w):Abj n0 K w:=
  fnc (A:=[]) (by kernel_rfl) Tryz.func127 Tryz.ntmps127 rfl h
noncomputable def LF(R:Value→World→Prop)(n3:Addr)(w:World):Prop:=
 JK n3 (fun(i4:Int) w=>
 br (decide (i4≥(31:Int)))
 (JF n3 (fun(x5:JA) w=>
 GX x5 (fun(b6:Bool) w=>
 R (.bool b6) w) w) w)
 (R (.bool false) w)) w
noncomputable def Aiz(n0:JA)(R:Value→World→Prop)(w:World):Prop:=
 bx (.cells n0.cells 27) (fun n1 w=>
 JK n1 (fun(i2:Int) w=>
 br (i2==(39:Int))
 (br (i2==(39:Int))
 (R (.bool false) w)
 (LF R n1 w))
 (br (i2==(40:Int))
 (br (i2==(40:Int))
 (R (.bool false) w)
 (LF R n1 w))
 (br (i2==(52:Int))
 (R (.bool false) w)
 (LF R n1 w)))) w) w
theorem AjO(n0:JA)(K:Bool→World→Prop)(w:World)(h:Aiz n0 (Rt (JS) K) w):AdH n0 K w:=
  fnc (A:=[]) (by kernel_rfl) Tryz.func128 Tryz.ntmps128 rfl h
noncomputable def AfC(n0:JA)(R:Value→World→Prop)(w:World):Prop:=
 bx (.cells n0.cells 27) (fun n1 w=>
 JF n1 (fun(x2:JA) w=>
 AaS x2 (fun(b3:Bool) w=>
 br (b3)
 (JF n1 (fun(x4:JA) w=>
 GX x4 (fun(b5:Bool) w=>
 R (.bool b5) w) w) w)
 (R (.bool false) w)) w) w) w
theorem AhM(n0:JA)(K:Bool→World→Prop)(w:World)(h:AfC n0 (Rt (JS) K) w):AaV n0 K w:=
  fnc (A:=[]) (by kernel_rfl) Tryz.func129 Tryz.ntmps129 rfl h
noncomputable def AlL(l0:Sl)(R:Value→World→Prop)(w:World):Prop:=
 bx (.cells #[l0.v] 182) (fun l1 w=>
 R (.func (.func 181) #[] #[.pointer (some l1)]) w) w
theorem AmG(l0:Sl)(K:Fv→World→Prop)(w:World)(h:AlL l0 (Rt (hFn) K) w):BZ l0 K w:=
  fnc (A:=[]) (by kernel_rfl) Tryz.func130 Tryz.ntmps130 rfl h
noncomputable def AiB(n0:JA)(R:Value→World→Prop)(w:World):Prop:=
 bx (.cells n0.cells 27) (fun n1 w=>
 JK n1 (fun(i2:Int) w=>
 br (i2==(0:Int))
 (QO (n1.add 2) (fun(s3:ByteArray) w=>
 br ((s3.toList==(⟨#[]⟩:ByteArray).toList))
 (JF n1 (fun(x4:JA) w=>
 SE x4 (fun(b5:Bool) w=>
 br (b5)
 (JZ (n1.add 5) (fun(l6:Sl) w=>
 R (.bool ((l6.n:Int)==(0:Int))) w) w)
 (R (.bool false) w)) w) w)
 (R (.bool false) w)) w)
 (R (.bool false) w)) w) w
theorem AjQ(n0:JA)(K:Bool→World→Prop)(w:World)(h:AiB n0 (Rt (JS) K) w):Aip n0 K w:=
  fnc (A:=[]) (by kernel_rfl) Tryz.func131 Tryz.ntmps131 rfl h
noncomputable def AgS(n0:JA)(R:Value→World→Prop)(w:World):Prop:=
 bx (.cells n0.cells 27) (fun n1 w=>
 JK n1 (fun(i2:Int) w=>
 br (i2==(2:Int))
 (JZ (n1.add 5) (fun(l3:Sl) w=>
 br (decide ((l3.n:Int) > (0:Int)))
 (JF n1 (fun(x4:JA) w=>
 GX x4 (fun(b5:Bool) w=>
 R (.bool b5) w) w) w)
 (R (.bool false) w)) w)
 (R (.bool false) w)) w) w
theorem Ai9(n0:JA)(K:Bool→World→Prop)(w:World)(h:AgS n0 (Rt (JS) K) w):SD n0 K w:=
  fnc (A:=[]) (by kernel_rfl) Tryz.func132 Tryz.ntmps132 rfl h
noncomputable def AdW(n0:JA)(R:Value→World→Prop)(w:World):Prop:=
 bx (.cells n0.cells 27) (fun n1 w=>
 JF n1 (fun(x2:JA) w=>
 AaV x2 (fun(b3:Bool) w=>
 br (b3)
 (R (.bool true) w)
 (JK n1 (fun(i4:Int) w=>
 br (i4==(23:Int))
 (JF n1 (fun(x5:JA) w=>
 GX x5 (fun(b6:Bool) w=>
 R (.bool b6) w) w) w)
 (R (.bool false) w)) w)) w) w) w
theorem AgF(n0:JA)(K:Bool→World→Prop)(w:World)(h:AdW n0 (Rt (JS) K) w):AdJ n0 K w:=
  fnc (A:=[]) (by kernel_rfl) Tryz.func133 Tryz.ntmps133 rfl h
noncomputable def GO(R:Value→World→Prop)(again2:List Value→World→Prop)(i5:Int)(c6:Int)(letter7:Bool)(x9:Int)(w:World):Prop:=
 br (!letter7)
 (br (i5==(0:Int))
 (R (.bool false) w)
 (br (decide (c6<(48:Int)))
 (R (.bool false) w)
 (br (decide (c6 > (57:Int)))
 (R (.bool false) w)
 (again2 [.int .i64 (IntKind.i64.wrap (x9+1))] w))))
 (again2 [.int .i64 (IntKind.i64.wrap (x9+1))] w)
noncomputable def Afv(s0:ByteArray)(R:Value→World→Prop)(w:World):Prop:=
 Lp (α:=Int) (fun x1=>[.int .i64 x1]) [.int .i64 0] (fun x1 again2 w=>
 br (decide (x1<(s0.size:Int)))
 (rn (Instr.index 9 (.string s0) (.int .i64 x1)) (QC .u8) (fun(i3:Int) w=>
 br (decide (i3≥(97:Int)))
 (br (decide (i3≤(122:Int)))
 (GO R again2 x1 i3 true x1 w)
 (br (decide (i3≥(65:Int)))
 (br (decide (i3≤(90:Int)))
 (GO R again2 x1 i3 true x1 w)
 (GO R again2 x1 i3 (i3==(95:Int)) x1 w))
 (GO R again2 x1 i3 (i3==(95:Int)) x1 w)))
 (br (decide (i3≥(65:Int)))
 (br (decide (i3≤(90:Int)))
 (GO R again2 x1 i3 true x1 w)
 (GO R again2 x1 i3 (i3==(95:Int)) x1 w))
 (GO R again2 x1 i3 (i3==(95:Int)) x1 w))) w)
 (br (!(s0.toList==(⟨#[]⟩:ByteArray).toList))
 (AbR s0 (fun(b10:Bool) w=>
 R (.bool (!b10)) w) w)
 (R (.bool false) w))) w
theorem AhF(s0:ByteArray)(K:Bool→World→Prop)(w:World)(h:Afv s0 (Rt (JS) K) w):NT s0 K w:=
  fnc (A:=[(2,[(8,QC .i64)])]) (by kernel_rfl) Tryz.func134 Tryz.ntmps134 rfl h
noncomputable def AjY(n0:JA)(R:Value→World→Prop)(w:World):Prop:=
 bx (.cells n0.cells 27) (fun n1 w=>
 JZ (n1.add 5) (fun(l2:Sl) w=>
 br (decide (IntKind.i64.wrap ((l2.n:Int) - 1)≥(0:Int)))
 (JZ (n1.add 5) (fun(l3:Sl) w=>
 rn (Instr.sliceAt 25 (l3.v) none (some (.int .i64 (IntKind.i64.wrap ((l2.n:Int) - 1)))) none) (hSl) (fun(l4:Sl) w=>
 AaU l4 (fun(b5:Bool) w=>
 br (b5)
 (JZ (n1.add 5) (fun(l6:Sl) w=>
 nn l6.a fun a7=>
 0≤(IntKind.i64.wrap ((l2.n:Int) - 1))∧(IntKind.i64.wrap ((l2.n:Int) - 1))<((l6.n:Nat):Int)∧
 JF (a7.add ((IntKind.i64.wrap ((l2.n:Int) - 1)).toNat * 6)) (fun(x8:JA) w=>
 SD x8 (fun(b9:Bool) w=>
 R (.bool b9) w) w) w) w)
 (R (.bool false) w)) w) w) w)
 (R (.bool false) w)) w) w
theorem Aln(n0:JA)(K:Bool→World→Prop)(w:World)(h:AjY n0 (Rt (JS) K) w):AjM n0 K w:=
  fnc (A:=[]) (by kernel_rfl) Tryz.func135 Tryz.ntmps135 rfl h
noncomputable def AgU(n0:JA)(R:Value→World→Prop)(w:World):Prop:=
 bx (.cells n0.cells 27) (fun n1 w=>
 dw (fun w=>
 ∃ S2:World→Prop,S2 w∧
 QM S2 (n1.add 5) fun(l3:Sl)=>
 br ((l3.n:Int)==(0:Int))
 (S2 w∧
 S2 w∧
 S2 w∧
 R (.bool true) w)
 (QM S2 (n1.add 5) fun(l4:Sl)=>
 bx (.cells #[.func (.func 131) #[] #[],.func (.func 128) #[] #[]] 142) (fun a5 w=>
 S2 w∧
 BZ ⟨some a5,2,2⟩ (fun(x6:Fv) w=>
 S2 w∧
 bx (.cells #[x6.v] 142) (fun a7 w=>
 S2 w∧
 KD l4 ⟨some a7,1,1⟩ (fun(b8:Bool) w=>
 R (.bool b8) w) w) w) w) w)) w) w
theorem Ajb(n0:JA)(K:Bool→World→Prop)(w:World)(h:AgU n0 (Rt (JS) K) w):AgE n0 K w:=
  fnc (A:=[]) (by kernel_rfl) Tryz.func136 Tryz.ntmps136 rfl h
noncomputable def AfE(R:Value→World→Prop)(n7:Addr)(w:World):Prop:=
 JZ (n7.add 5) (fun(l8:Sl) w=>
 rn (Instr.sliceAt 25 (l8.v) (some (.int .i64 1)) none none) (hSl) (fun(l9:Sl) w=>
 Lp (α:=Int) (fun x10=>[.int .i64 x10]) [.int .i64 0] (fun x10 again11 w=>
 br (decide (x10<(l9.n:Int)))
 (nn l9.a fun a12=>
 0≤x10∧x10<((l9.n:Nat):Int)∧
 JF (a12.add (x10.toNat * 6)) (fun(x13:JA) w=>
 bx (.cells #[.int .i64 0,.int .i64 0,.string (⟨#[]⟩:ByteArray),.bool false,.slice none 0 0,.slice none 0 0] 27) (fun x14 w=>
 JC x14 x13 (fun w=>
 JK x14 (fun(i15:Int) w=>
 br (i15 != (22:Int))
 (R (.bool false) w)
 (JF x14 (fun(x16:JA) w=>
 GX x16 (fun(b17:Bool) w=>
 br (!b17)
 (R (.bool false) w)
 (JZ (x14.add 5) (fun(l18:Sl) w=>
 nn l18.a fun a19=>
 0≤(0:Int)∧(0:Int)<((l18.n:Nat):Int)∧
 JK a19 (fun(i20:Int) w=>
 br (i20==(0:Int))
 (JZ (n7.add 5) (fun(l21:Sl) w=>
 br (decide (x10<IntKind.i64.wrap ((l21.n:Int) - 2)))
 (R (.bool false) w)
 (again11 [.int .i64 (IntKind.i64.wrap (x10+1))] w)) w)
 (again11 [.int .i64 (IntKind.i64.wrap (x10+1))] w)) w) w)) w) w)) w) w) w) w)
 (R (.bool true) w)) w) w) w
noncomputable def Aj0(n0:JA)(R:Value→World→Prop)(w:World):Prop:=
 bx (.cells n0.cells 27) (fun n1 w=>
 JZ (n1.add 5) (fun(l2:Sl) w=>
 br (decide ((l2.n:Int)<(2:Int)))
 (R (.bool false) w)
 (JZ (n1.add 5) (fun(l3:Sl) w=>
 nn l3.a fun a4=>
 0≤(0:Int)∧(0:Int)<((l3.n:Nat):Int)∧
 JF a4 (fun(x5:JA) w=>
 SD x5 (fun(b6:Bool) w=>
 br (!b6)
 (R (.bool false) w)
 (AfE R n1 w)) w) w) w)) w) w
theorem Alq(n0:JA)(K:Bool→World→Prop)(w:World)(h:Aj0 n0 (Rt (JS) K) w):AjV n0 K w:=
  fnc (A:=[(4,[(21,QC .i64)])]) (by kernel_rfl) Tryz.func137 Tryz.ntmps137 rfl h
noncomputable def RW(s0:ByteArray)(R:Value→World→Prop)(w:World):Prop:=
 br ((s0.toList==(⟨#[]⟩:ByteArray).toList))
 (R (.bool true) w)
 (NT s0 (fun(b1:Bool) w=>
 R (.bool b1) w) w)
theorem Aci(s0:ByteArray)(K:Bool→World→Prop)(w:World)(h:RW s0 (Rt (JS) K) w):Ae5 s0 K w:=
  fnc (A:=[]) (by kernel_rfl) Tryz.func138 Tryz.ntmps138 rfl h
noncomputable def Afu(n0:JA)(R:Value→World→Prop)(w:World):Prop:=
 bx (.cells n0.cells 27) (fun n1 w=>
 dw (fun w=>
 ∃ S2:World→Prop,S2 w∧
 QM S2 (n1.add 5) fun(l3:Sl)=>
 bx (.cells #[.func (.func 131) #[] #[],.func (.func 128) #[] #[]] 142) (fun a4 w=>
 S2 w∧
 BZ ⟨some a4,2,2⟩ (fun(x5:Fv) w=>
 S2 w∧
 bx (.cells #[x5.v,.func (.func 132) #[] #[]] 142) (fun a6 w=>
 S2 w∧
 KD l3 ⟨some a6,2,2⟩ (fun(b7:Bool) w=>
 ∃ S8:World→Prop,S8 w∧
 br (b7)
 (YY S8 (n1.add 2) fun(s9:ByteArray)=>
 br ((s9.toList==(⟨#[]⟩:ByteArray).toList))
 (∃ S10:World→Prop,S10 w∧
 R (.bool true) w)
 (YY S8 (n1.add 2) fun(s11:ByteArray)=>
 NT s11 (fun(b12:Bool) w=>
 ∃ S13:World→Prop,S13 w∧
 br (b12)
 (QM S13 (n1.add 5) fun(l14:Sl)=>
 nn l14.a fun a15=>
 0≤(0:Int)∧(0:Int)<((l14.n:Nat):Int)∧
 QG S13 a15 fun(i16:Int)=>
 R (.bool (i16 != (0:Int))) w)
 (R (.bool false) w)) w))
 (∃ S17:World→Prop,S17 w∧
 R (.bool false) w)) w) w) w) w) w) w
theorem AhE(n0:JA)(K:Bool→World→Prop)(w:World)(h:Afu n0 (Rt (JS) K) w):Aff n0 K w:=
  fnc (A:=[]) (by kernel_rfl) Tryz.func139 Tryz.ntmps139 rfl h
noncomputable def OI(R:Value→World→Prop)(A37:Addr)(r38:Int)(x39:Bool)(w:World):Prop:=
 br (x39)
 (Aaj ⟨128,#[]⟩ (fun(x40:Fv) w=>
 JX A37 ⟨.func (.func 123) #[] #[],x40.v⟩ (fun w=>
 QA A37 (fun r41=>
 R (r41.v) w) w) w) w)
 (br (r38==(43:Int))
 (BY 39 (fun(x42:Fv) w=>
 Aaj x42 (fun(x43:Fv) w=>
 JX A37 ⟨.func (.func 123) #[] #[],x43.v⟩ (fun w=>
 QA A37 (fun r44=>
 R (r44.v) w) w) w) w) w)
 (br (r38==(44:Int))
 (bx (.cells #[.func (.func 128) #[] #[],.func (.func 128) #[] #[],.func (.func 128) #[] #[]] 142) (fun a45 w=>
 YB ⟨some a45,3,3⟩ (fun(x46:Fv) w=>
 JX A37 ⟨.func (.func 123) #[] #[],x46.v⟩ (fun w=>
 QA A37 (fun r47=>
 R (r47.v) w) w) w) w) w)
 (br (r38==(48:Int))
 (bx (.cells #[.string (⟨#[61,61]⟩:ByteArray),.string (⟨#[33,61]⟩:ByteArray),.string (⟨#[60]⟩:ByteArray),.string (⟨#[60,61]⟩:ByteArray),.string (⟨#[62]⟩:ByteArray),.string (⟨#[62,61]⟩:ByteArray),.string (⟨#[105,110]⟩:ByteArray),.string (⟨#[110,111,116,32,105,110]⟩:ByteArray),.string (⟨#[105,115]⟩:ByteArray),.string (⟨#[105,115,32,110,111,116]⟩:ByteArray)] 9) (fun a48 w=>
 KL ⟨some a48,10,10⟩ (fun(x49:Fv) w=>
 bx (.cells #[.func (.func 128) #[] #[],.func (.func 128) #[] #[]] 142) (fun a50 w=>
 YB ⟨some a50,2,2⟩ (fun(x51:Fv) w=>
 JX A37 ⟨x49.v,x51.v⟩ (fun w=>
 QA A37 (fun r52=>
 R (r52.v) w) w) w) w) w) w) w)
 (br (r38==(49:Int))
 (bx (.cells #[.string (⟨#[43]⟩:ByteArray),.string (⟨#[45]⟩:ByteArray),.string (⟨#[42]⟩:ByteArray),.string (⟨#[47,47]⟩:ByteArray),.string (⟨#[37]⟩:ByteArray),.string (⟨#[38]⟩:ByteArray),.string (⟨#[124]⟩:ByteArray),.string (⟨#[94]⟩:ByteArray)] 9) (fun a53 w=>
 KL ⟨some a53,8,8⟩ (fun(x54:Fv) w=>
 bx (.cells #[.func (.func 128) #[] #[],.func (.func 128) #[] #[]] 142) (fun a55 w=>
 YB ⟨some a55,2,2⟩ (fun(x56:Fv) w=>
 JX A37 ⟨x54.v,x56.v⟩ (fun w=>
 QA A37 (fun r57=>
 R (r57.v) w) w) w) w) w) w) w)
 (br (r38==(51:Int))
 (JX A37 ⟨.func (.func 123) #[] #[],.func (.func 188) #[] #[]⟩ (fun w=>
 QA A37 (fun r58=>
 R (r58.v) w) w) w)
 (br (r38==(52:Int))
 (br (r38==(52:Int))
 (bx (.cells #[.func (.func 128) #[] #[]] 142) (fun a59 w=>
 YB ⟨some a59,1,1⟩ (fun(x60:Fv) w=>
 JX A37 ⟨.func (.func 134) #[] #[],x60.v⟩ (fun w=>
 QA A37 (fun r61=>
 R (r61.v) w) w) w) w) w)
 (JX A37 ⟨.nilFunc,.nilFunc⟩ (fun w=>
 QA A37 (fun r62=>
 R (r62.v) w) w) w))
 (br (r38==(53:Int))
 (bx (.cells #[.func (.func 128) #[] #[]] 142) (fun a63 w=>
 YB ⟨some a63,1,1⟩ (fun(x64:Fv) w=>
 JX A37 ⟨.func (.func 134) #[] #[],x64.v⟩ (fun w=>
 QA A37 (fun r65=>
 R (r65.v) w) w) w) w) w)
 (JX A37 ⟨.nilFunc,.nilFunc⟩ (fun w=>
 QA A37 (fun r66=>
 R (r66.v) w) w) w))))))))
noncomputable def EU(R:Value→World→Prop)(A31:Addr)(r32:Int)(x33:Bool)(w:World):Prop:=
 br (x33)
 (bx (.cells #[.func (.func 128) #[] #[]] 142) (fun a34 w=>
 YB ⟨some a34,1,1⟩ (fun(x35:Fv) w=>
 JX A31 ⟨.func (.func 123) #[] #[],x35.v⟩ (fun w=>
 QA A31 (fun r36=>
 R (r36.v) w) w) w) w) w)
 (br (r32==(41:Int))
 (OI R A31 r32 (r32==(41:Int)) w)
 (OI R A31 r32 (r32==(42:Int)) w))
noncomputable def DV(R:Value→World→Prop)(A25:Addr)(r26:Int)(x27:Bool)(w:World):Prop:=
 br (x27)
 (bx (.cells #[.func (.func 128) #[] #[],.func (.func 128) #[] #[]] 142) (fun a28 w=>
 YB ⟨some a28,2,2⟩ (fun(x29:Fv) w=>
 JX A25 ⟨.func (.func 123) #[] #[],x29.v⟩ (fun w=>
 QA A25 (fun r30=>
 R (r30.v) w) w) w) w) w)
 (br (r26==(40:Int))
 (EU R A25 r26 (r26==(40:Int)) w)
 (br (r26==(47:Int))
 (EU R A25 r26 (r26==(47:Int)) w)
 (EU R A25 r26 (r26==(50:Int)) w)))
noncomputable def OH(R:Value→World→Prop)(A12:Addr)(r13:Int)(x14:Bool)(w:World):Prop:=
 br (x14)
 (IT 0 ⟨128,#[]⟩ (fun(x15:Fv) w=>
 JX A12 ⟨.func (.func 123) #[] #[],x15.v⟩ (fun w=>
 QA A12 (fun r16=>
 R (r16.v) w) w) w) w)
 (br (r13==(37:Int))
 (IT 1 ⟨128,#[]⟩ (fun(x17:Fv) w=>
 JX A12 ⟨.func (.func 123) #[] #[],x17.v⟩ (fun w=>
 QA A12 (fun r18=>
 R (r18.v) w) w) w) w)
 (br (r13==(38:Int))
 (BY 39 (fun(x19:Fv) w=>
 BY 40 (fun(x20:Fv) w=>
 bx (.cells #[x19.v,x20.v] 142) (fun a21 w=>
 BZ ⟨some a21,2,2⟩ (fun(x22:Fv) w=>
 IT 0 x22 (fun(x23:Fv) w=>
 JX A12 ⟨.func (.func 123) #[] #[],x23.v⟩ (fun w=>
 QA A12 (fun r24=>
 R (r24.v) w) w) w) w) w) w) w) w)
 (br (r13==(39:Int))
 (DV R A12 r13 (r13==(39:Int)) w)
 (br (r13==(45:Int))
 (DV R A12 r13 (r13==(45:Int)) w)
 (br (r13==(46:Int))
 (DV R A12 r13 (r13==(46:Int)) w)
 (DV R A12 r13 (r13==(54:Int)) w))))))
noncomputable def TY(t0:Int)(R:Value→World→Prop)(w:World):Prop:=
 bx (.cells #[.nilFunc,.nilFunc] 144) (fun A1 w=>
 br (t0==(31:Int))
 (YB ⟨none,0,0⟩ (fun(y2:Fv) w=>
 JX A1 ⟨.func (.func 134) #[] #[],y2.v⟩ (fun w=>
 QA A1 (fun r3=>
 R (r3.v) w) w) w) w)
 (br (t0==(32:Int))
 (YB ⟨none,0,0⟩ (fun(x4:Fv) w=>
 JX A1 ⟨.func (.func 123) #[] #[],x4.v⟩ (fun w=>
 QA A1 (fun r5=>
 R (r5.v) w) w) w) w)
 (br (t0==(33:Int))
 (YB ⟨none,0,0⟩ (fun(x6:Fv) w=>
 JX A1 ⟨.func (.func 186) #[] #[],x6.v⟩ (fun w=>
 QA A1 (fun r7=>
 R (r7.v) w) w) w) w)
 (br (t0==(34:Int))
 (bx (.cells #[.string (⟨#[78,111,110,101]⟩:ByteArray),.string (⟨#[84,114,117,101]⟩:ByteArray),.string (⟨#[70,97,108,115,101]⟩:ByteArray)] 9) (fun a8 w=>
 KL ⟨some a8,3,3⟩ (fun(x9:Fv) w=>
 YB ⟨none,0,0⟩ (fun(x10:Fv) w=>
 JX A1 ⟨x9.v,x10.v⟩ (fun w=>
 QA A1 (fun r11=>
 R (r11.v) w) w) w) w) w) w)
 (br (t0==(35:Int))
 (OH R A1 t0 (t0==(35:Int)) w)
 (OH R A1 t0 (t0==(36:Int)) w)))))) w
theorem Adn(t0:Int)(K:YA→World→Prop)(w:World)(h:TY t0 (Rt (AU) K) w):KC t0 K w:=
  fnc (A:=[]) (by kernel_rfl) Tryz.func140 Tryz.ntmps140 rfl h
noncomputable def AfD(s0:ByteArray)(c1:Addr)(R:Value→World→Prop)(w:World):Prop:=
 Af9 c1 (fun(l1:Sl) w=>
 HV l1 s0 (fun(b2:Bool) w=>
 R (.bool b2) w) w) w
theorem AhN(s0:ByteArray)(c1:Addr)(K:Bool→World→Prop)(w:World)(h:AfD s0 c1 (Rt (JS) K) w):Afj s0 c1 K w:=
  fnc (A:=[]) (by kernel_rfl) Tryz.func173 Tryz.ntmps173 rfl h
noncomputable def Afw(n0:JA)(c1:Addr)(R:Value→World→Prop)(w:World):Prop:=
 bx (.cells n0.cells 27) (fun n1 w=>
 JZ (n1.add 5) (fun(l2:Sl) w=>
 WJ c1 (fun(l3:Sl) w=>
 KD l2 l3 (fun(b4:Bool) w=>
 R (.bool b4) w) w) w) w) w
theorem AhG(n0:JA)(c1:Addr)(K:Bool→World→Prop)(w:World)(h:Afw n0 c1 (Rt (JS) K) w):Afg n0 c1 K w:=
  fnc (A:=[]) (by kernel_rfl) Tryz.func175 Tryz.ntmps175 rfl h
noncomputable def AjZ(l0:Sl)(shapes:Sl)(R:Value→World→Prop)(w:World):Prop:=
 br ((l0.n:Int) != (shapes.n:Int))
 (R (.bool false) w)
 (Lp (α:=Int) (fun x1=>[.int .i64 x1]) [.int .i64 0] (fun x1 again2 w=>
 br (decide (x1<(shapes.n:Int)))
 (nn shapes.a fun a3=>
 0≤x1∧x1<((shapes.n:Nat):Int)∧
 OB (a3.add (x1.toNat * 1)) (fun(x4:Fv) w=>
 nn l0.a fun a5=>
 0≤x1∧x1<((l0.n:Nat):Int)∧
 JF (a5.add (x1.toNat * 6)) (fun(x6:JA) w=>
 clv (x4.v) #[x6.v] (JS) (fun(b7:Bool) w=>
 br (!b7)
 (R (.bool false) w)
 (again2 [.int .i64 (IntKind.i64.wrap (x1+1))] w)) w) w) w)
 (R (.bool true) w)) w)
theorem Alp(l0:Sl)(shapes:Sl)(K:Bool→World→Prop)(w:World)(h:AjZ l0 shapes (Rt (JS) K) w):KD l0 shapes K w:=
  fnc (A:=[(4,[(14,QC .i64)])]) (by kernel_rfl) Tryz.func176 Tryz.ntmps176 rfl h
noncomputable def AiC(n0:JA)(c1:Addr)(R:Value→World→Prop)(w:World):Prop:=
 bx (.cells n0.cells 27) (fun n1 w=>
 JK n1 (fun(i2:Int) w=>
 JK c1 (fun(i3:Int) w=>
 br (i2==i3)
 (JF n1 (fun(x4:JA) w=>
 GX x4 (fun(b5:Bool) w=>
 R (.bool b5) w) w) w)
 (R (.bool false) w)) w) w) w
theorem AjR(n0:JA)(c1:Addr)(K:Bool→World→Prop)(w:World)(h:AiC n0 c1 (Rt (JS) K) w):Aiq n0 c1 K w:=
  fnc (A:=[]) (by kernel_rfl) Tryz.func177 Tryz.ntmps177 rfl h
noncomputable def AfB(n0:JA)(c1:Addr)(c2:Addr)(R:Value→World→Prop)(w:World):Prop:=
 bx (.cells n0.cells 27) (fun n1 w=>
 JZ (n1.add 5) (fun(l2:Sl) w=>
 JK c1 (fun(i3:Int) w=>
 br (decide ((l2.n:Int)≥i3))
 (JZ (n1.add 5) (fun(l4:Sl) w=>
 OB c2 (fun(x5:Fv) w=>
 Aak l4 x5 (fun(b6:Bool) w=>
 R (.bool b6) w) w) w) w)
 (R (.bool false) w)) w) w) w
theorem AhL(n0:JA)(c1:Addr)(c2:Addr)(K:Bool→World→Prop)(w:World)(h:AfB n0 c1 c2 (Rt (JS) K) w):Afi n0 c1 c2 K w:=
  fnc (A:=[]) (by kernel_rfl) Tryz.func178 Tryz.ntmps178 rfl h
noncomputable def Aiy(l0:Sl)(s0:Fv)(R:Value→World→Prop)(w:World):Prop:=
 bx (.cells #[s0.v] 142) (fun s1 w=>
 VW l0 ⟨229,#[.pointer (some s1)]⟩ (fun(b2:Bool) w=>
 R (.bool (!b2)) w) w) w
theorem AjN(l0:Sl)(s0:Fv)(K:Bool→World→Prop)(w:World)(h:Aiy l0 s0 (Rt (JS) K) w):Aak l0 s0 K w:=
  fnc (A:=[]) (by kernel_rfl) Tryz.func179 Tryz.ntmps179 rfl h
noncomputable def Afr(n0:JA)(R:Value→World→Prop)(w:World):Prop:=
 bx (.cells n0.cells 27) (fun n1 w=>
 JK n1 (fun(i2:Int) w=>
 br (i2==(31:Int))
 (R (.bool true) w)
 (JK n1 (fun(i3:Int) w=>
 br (i3==(53:Int))
 (R (.bool true) w)
 (JK n1 (fun(i4:Int) w=>
 R (.bool (i4==(54:Int))) w) w)) w)) w) w
theorem AhB(n0:JA)(K:Bool→World→Prop)(w:World)(h:Afr n0 (Rt (JS) K) w):AaS n0 K w:=
  fnc (A:=[]) (by kernel_rfl) Tryz.func180 Tryz.ntmps180 rfl h
noncomputable def AiD(n0:JA)(c1:Addr)(R:Value→World→Prop)(w:World):Prop:=
 bx (.cells n0.cells 27) (fun n1 w=>
 WJ c1 (fun(l2:Sl) w=>
 GR l2 ⟨183,#[.pointer (some n1)]⟩ (fun(b3:Bool) w=>
 R (.bool b3) w) w) w) w
theorem AjS(n0:JA)(c1:Addr)(K:Bool→World→Prop)(w:World)(h:AiD n0 c1 (Rt (JS) K) w):Air n0 c1 K w:=
  fnc (A:=[]) (by kernel_rfl) Tryz.func181 Tryz.ntmps181 rfl h
noncomputable def Afz(s0:Fv)(c1:Addr)(R:Value→World→Prop)(w:World):Prop:=
 JF c1 (fun(x1:JA) w=>
 clv (s0.v) #[x1.v] (JS) (fun(b2:Bool) w=>
 R (.bool b2) w) w) w
theorem AhJ(s0:Fv)(c1:Addr)(K:Bool→World→Prop)(w:World)(h:Afz s0 c1 (Rt (JS) K) w):Afh s0 c1 K w:=
  fnc (A:=[]) (by kernel_rfl) Tryz.func183 Tryz.ntmps183 rfl h
noncomputable def AgJ(s0:ByteArray)(R:Value→World→Prop)(w:World):Prop:=
 br ((s0.toList==(⟨#[97,110,100]⟩:ByteArray).toList))
 (br ((s0.toList==(⟨#[97,110,100]⟩:ByteArray).toList))
 (R (.bool true) w)
 (R (.bool false) w))
 (br ((s0.toList==(⟨#[97,115]⟩:ByteArray).toList))
 (br ((s0.toList==(⟨#[97,115]⟩:ByteArray).toList))
 (R (.bool true) w)
 (R (.bool false) w))
 (br ((s0.toList==(⟨#[98,114,101,97,107]⟩:ByteArray).toList))
 (br ((s0.toList==(⟨#[98,114,101,97,107]⟩:ByteArray).toList))
 (R (.bool true) w)
 (R (.bool false) w))
 (br ((s0.toList==(⟨#[99,108,97,115,115]⟩:ByteArray).toList))
 (br ((s0.toList==(⟨#[99,108,97,115,115]⟩:ByteArray).toList))
 (R (.bool true) w)
 (R (.bool false) w))
 (br ((s0.toList==(⟨#[99,111,110,116,105,110,117,101]⟩:ByteArray).toList))
 (br ((s0.toList==(⟨#[99,111,110,116,105,110,117,101]⟩:ByteArray).toList))
 (R (.bool true) w)
 (R (.bool false) w))
 (br ((s0.toList==(⟨#[100,101,102]⟩:ByteArray).toList))
 (br ((s0.toList==(⟨#[100,101,102]⟩:ByteArray).toList))
 (R (.bool true) w)
 (R (.bool false) w))
 (br ((s0.toList==(⟨#[100,101,108]⟩:ByteArray).toList))
 (br ((s0.toList==(⟨#[100,101,108]⟩:ByteArray).toList))
 (R (.bool true) w)
 (R (.bool false) w))
 (br ((s0.toList==(⟨#[101,108,105,102]⟩:ByteArray).toList))
 (br ((s0.toList==(⟨#[101,108,105,102]⟩:ByteArray).toList))
 (R (.bool true) w)
 (R (.bool false) w))
 (br ((s0.toList==(⟨#[101,108,115,101]⟩:ByteArray).toList))
 (br ((s0.toList==(⟨#[101,108,115,101]⟩:ByteArray).toList))
 (R (.bool true) w)
 (R (.bool false) w))
 (br ((s0.toList==(⟨#[101,120,99,101,112,116]⟩:ByteArray).toList))
 (br ((s0.toList==(⟨#[101,120,99,101,112,116]⟩:ByteArray).toList))
 (R (.bool true) w)
 (R (.bool false) w))
 (br ((s0.toList==(⟨#[70,97,108,115,101]⟩:ByteArray).toList))
 (br ((s0.toList==(⟨#[70,97,108,115,101]⟩:ByteArray).toList))
 (R (.bool true) w)
 (R (.bool false) w))
 (br ((s0.toList==(⟨#[102,111,114]⟩:ByteArray).toList))
 (br ((s0.toList==(⟨#[102,111,114]⟩:ByteArray).toList))
 (R (.bool true) w)
 (R (.bool false) w))
 (br ((s0.toList==(⟨#[103,108,111,98,97,108]⟩:ByteArray).toList))
 (br ((s0.toList==(⟨#[103,108,111,98,97,108]⟩:ByteArray).toList))
 (R (.bool true) w)
 (R (.bool false) w))
 (br ((s0.toList==(⟨#[105,102]⟩:ByteArray).toList))
 (br ((s0.toList==(⟨#[105,102]⟩:ByteArray).toList))
 (R (.bool true) w)
 (R (.bool false) w))
 (br ((s0.toList==(⟨#[105,110]⟩:ByteArray).toList))
 (br ((s0.toList==(⟨#[105,110]⟩:ByteArray).toList))
 (R (.bool true) w)
 (R (.bool false) w))
 (br ((s0.toList==(⟨#[105,115]⟩:ByteArray).toList))
 (br ((s0.toList==(⟨#[105,115]⟩:ByteArray).toList))
 (R (.bool true) w)
 (R (.bool false) w))
 (br ((s0.toList==(⟨#[78,111,110,101]⟩:ByteArray).toList))
 (br ((s0.toList==(⟨#[78,111,110,101]⟩:ByteArray).toList))
 (R (.bool true) w)
 (R (.bool false) w))
 (br ((s0.toList==(⟨#[110,111,110,108,111,99,97,108]⟩:ByteArray).toList))
 (br ((s0.toList==(⟨#[110,111,110,108,111,99,97,108]⟩:ByteArray).toList))
 (R (.bool true) w)
 (R (.bool false) w))
 (br ((s0.toList==(⟨#[110,111,116]⟩:ByteArray).toList))
 (br ((s0.toList==(⟨#[110,111,116]⟩:ByteArray).toList))
 (R (.bool true) w)
 (R (.bool false) w))
 (br ((s0.toList==(⟨#[111,114]⟩:ByteArray).toList))
 (br ((s0.toList==(⟨#[111,114]⟩:ByteArray).toList))
 (R (.bool true) w)
 (R (.bool false) w))
 (br ((s0.toList==(⟨#[112,97,115,115]⟩:ByteArray).toList))
 (br ((s0.toList==(⟨#[112,97,115,115]⟩:ByteArray).toList))
 (R (.bool true) w)
 (R (.bool false) w))
 (br ((s0.toList==(⟨#[114,97,105,115,101]⟩:ByteArray).toList))
 (br ((s0.toList==(⟨#[114,97,105,115,101]⟩:ByteArray).toList))
 (R (.bool true) w)
 (R (.bool false) w))
 (br ((s0.toList==(⟨#[114,101,116,117,114,110]⟩:ByteArray).toList))
 (br ((s0.toList==(⟨#[114,101,116,117,114,110]⟩:ByteArray).toList))
 (R (.bool true) w)
 (R (.bool false) w))
 (br ((s0.toList==(⟨#[84,114,117,101]⟩:ByteArray).toList))
 (br ((s0.toList==(⟨#[84,114,117,101]⟩:ByteArray).toList))
 (R (.bool true) w)
 (R (.bool false) w))
 (br ((s0.toList==(⟨#[116,114,121]⟩:ByteArray).toList))
 (br ((s0.toList==(⟨#[116,114,121]⟩:ByteArray).toList))
 (R (.bool true) w)
 (R (.bool false) w))
 (br ((s0.toList==(⟨#[119,104,105,108,101]⟩:ByteArray).toList))
 (R (.bool true) w)
 (R (.bool false) w))))))))))))))))))))))))))
theorem Ai0(s0:ByteArray)(K:Bool→World→Prop)(w:World)(h:AgJ s0 (Rt (JS) K) w):AbR s0 K w:=
  fnc (A:=[]) (by kernel_rfl) Tryz.func184 Tryz.ntmps184 rfl h
noncomputable def Abr(R:Value→World→Prop)(again2:List Value→World→Prop)(l9:Sl)(given10:Bool)(i11:Int)(p12:Addr)(x15:Int)(w:World):Prop:=
 JZ (p12.add 5) (fun(l16:Sl) w=>
 br ((l16.n:Int)==(0:Int))
 (R (.bool (i11==(IntKind.i64.wrap ((l9.n:Int) - 1)))) w)
 (JZ (p12.add 5) (fun(l17:Sl) w=>
 nn l17.a fun a18=>
 0≤(0:Int)∧(0:Int)<((l17.n:Nat):Int)∧
 JK a18 (fun(i19:Int) w=>
 br (i19 != (0:Int))
 (again2 [.bool true,.int .i64 (IntKind.i64.wrap (x15+1))] w)
 (br (given10)
 (R (.bool false) w)
 (again2 [.bool given10,.int .i64 (IntKind.i64.wrap (x15+1))] w))) w) w)) w
noncomputable def AfA(l0:Sl)(R:Value→World→Prop)(w:World):Prop:=
 Lp (α:=Bool×Int) (fun x1=>[.bool x1.1,.int .i64 x1.2]) [.bool false,.int .i64 0] (fun x1 again2 w=>
 br (decide (x1.2<(l0.n:Int)))
 (nn l0.a fun a3=>
 0≤x1.2∧x1.2<((l0.n:Nat):Int)∧
 JF (a3.add (x1.2.toNat * 6)) (fun(x4:JA) w=>
 bx (.cells #[.int .i64 0,.int .i64 0,.string (⟨#[]⟩:ByteArray),.bool false,.slice none 0 0,.slice none 0 0] 27) (fun p5 w=>
 JC p5 x4 (fun w=>
 JK p5 (fun(i6:Int) w=>
 br (i6 != (19:Int))
 (R (.bool false) w)
 (JF p5 (fun(x7:JA) w=>
 GX x7 (fun(b8:Bool) w=>
 br (!b8)
 (R (.bool false) w)
 (Abr R again2 l0 x1.1 x1.2 p5 x1.2 w)) w) w)) w) w) w) w)
 (R (.bool true) w)) w
theorem AhK(l0:Sl)(K:Bool→World→Prop)(w:World)(h:AfA l0 (Rt (JS) K) w):AaU l0 K w:=
  fnc (A:=[(3,[(3,JS),(8,QC .i64)])]) (by kernel_rfl) Tryz.func185 Tryz.ntmps185 rfl h
noncomputable def AdK(s0:ByteArray)(R:Value→World→Prop)(w:World):Prop:=
 CA s0 (fun(b1:Bool) w=>
 R (.bool b1) w) w
theorem Agv(s0:ByteArray)(K:Bool→World→Prop)(w:World)(h:AdK s0 (Rt (JS) K) w):AjF s0 K w:=
  fnc (A:=[]) (by kernel_rfl) Tryz.func186 Tryz.ntmps186 rfl h
noncomputable def Aix(first:Fv)(R:Value→World→Prop)(w:World):Prop:=
 bx (.cells #[first.v] 142) (fun first1 w=>
 R (.func (.func 232) #[] #[.pointer (some first1)]) w) w
theorem AjL(first:Fv)(K:Fv→World→Prop)(w:World)(h:Aix first (Rt (hFn) K) w):Aaj first K w:=
  fnc (A:=[]) (by kernel_rfl) Tryz.func187 Tryz.ntmps187 rfl h
noncomputable def AdV(R:Value→World→Prop)(n7:Addr)(w:World):Prop:=
 JZ (n7.add 5) (fun(l8:Sl) w=>
 rn (Instr.sliceAt 25 (l8.v) (some (.int .i64 1)) none none) (hSl) (fun(l9:Sl) w=>
 BY 52 (fun(x10:Fv) w=>
 bx (.cells #[.func (.func 128) #[] #[],x10.v] 142) (fun a11 w=>
 Lp (α:=Sl×Int) (fun x12=>[x12.1.v,.int .i64 x12.2]) [l9.v,.int .i64 0] (fun x12 again13 w=>
 br (decide (x12.2<(2:Int)))
 (0≤x12.2∧x12.2<((2:Nat):Int)∧
 OB (a11.add (x12.2.toNat * 1)) (fun(x14:Fv) w=>
 Lp (α:=Sl) (fun l15=>[l15.v]) [x12.1.v] (fun l15 again16 w=>
 br (decide ((l15.n:Int) > (0:Int)))
 (nn l15.a fun a17=>
 0≤(0:Int)∧(0:Int)<((l15.n:Nat):Int)∧
 JF a17 (fun(x18:JA) w=>
 clv (x14.v) #[x18.v] (JS) (fun(b19:Bool) w=>
 br (b19)
 (rn (Instr.sliceAt 25 (l15.v) (some (.int .i64 1)) none none) (hSl) (fun(l20:Sl) w=>
 again16 [l20.v] w) w)
 (again13 [l15.v,.int .i64 (IntKind.i64.wrap (x12.2+1))] w)) w) w)
 (again13 [l15.v,.int .i64 (IntKind.i64.wrap (x12.2+1))] w)) w) w)
 (br ((x12.1.n:Int)==(0:Int))
 (R (.bool true) w)
 (BY 40 (fun(x21:Fv) w=>
 bx (.cells #[x21.v] 142) (fun a22 w=>
 KD x12.1 ⟨some a22,1,1⟩ (fun(b23:Bool) w=>
 R (.bool b23) w) w) w) w))) w) w) w) w) w
noncomputable def Aiw(n0:JA)(R:Value→World→Prop)(w:World):Prop:=
 bx (.cells n0.cells 27) (fun n1 w=>
 JZ (n1.add 5) (fun(l2:Sl) w=>
 br ((l2.n:Int)==(0:Int))
 (R (.bool false) w)
 (JZ (n1.add 5) (fun(l3:Sl) w=>
 nn l3.a fun a4=>
 0≤(0:Int)∧(0:Int)<((l3.n:Nat):Int)∧
 JF a4 (fun(x5:JA) w=>
 AdH x5 (fun(b6:Bool) w=>
 br (!b6)
 (R (.bool false) w)
 (AdV R n1 w)) w) w) w)) w) w
theorem AjK(n0:JA)(K:Bool→World→Prop)(w:World)(h:Aiw n0 (Rt (JS) K) w):Aio n0 K w:=
  fnc (A:=[(5,[(3,hSl),(24,QC .i64)]),(7,[(3,hSl)])]) (by kernel_rfl) Tryz.func188 Tryz.ntmps188 rfl h
noncomputable def Aft(n0:JA)(c1:Addr)(R:Value→World→Prop)(w:World):Prop:=
 bx (.cells n0.cells 27) (fun n1 w=>
 OB c1 (fun(x2:Fv) w=>
 JF n1 (fun(x3:JA) w=>
 clv (x2.v) #[x3.v] (JS) (fun(b4:Bool) w=>
 R (.bool (!b4)) w) w) w) w) w
theorem AhD(n0:JA)(c1:Addr)(K:Bool→World→Prop)(w:World)(h:Aft n0 c1 (Rt (JS) K) w):Afe n0 c1 K w:=
  fnc (A:=[]) (by kernel_rfl) Tryz.func229 Tryz.ntmps229 rfl h
noncomputable def Afs(n0:JA)(c1:Addr)(R:Value→World→Prop)(w:World):Prop:=
 bx (.cells n0.cells 27) (fun n1 w=>
 dw (fun w=>
 ∃ S2:World→Prop,S2 w∧
 QM S2 (n1.add 5) fun(l3:Sl)=>
 br (decide ((l3.n:Int)≥(3:Int)))
 (QM S2 (n1.add 5) fun(l4:Sl)=>
 rnS S2 (Instr.sliceAt 25 (l4.v) none (some (.int .i64 3)) none) (hSl) fun(l5:Sl)=>
 Aeg S2 c1 fun(x6:Fv)=>
 bx (.cells #[x6.v,.func (.func 133) #[] #[],.func (.func 128) #[] #[]] 142) (fun a7 w=>
 S2 w∧
 KD l5 ⟨some a7,3,3⟩ (fun(b8:Bool) w=>
 ∃ S9:World→Prop,S9 w∧
 br (b8)
 (QM S9 (n1.add 5) fun(l10:Sl)=>
 rnS S9 (Instr.sliceAt 25 (l10.v) (some (.int .i64 3)) none none) (hSl) fun(l11:Sl)=>
 Aak l11 ⟨128,#[]⟩ (fun(b12:Bool) w=>
 R (.bool b12) w) w)
 (R (.bool false) w)) w) w)
 (S2 w∧
 ∃ S13:World→Prop,S13 w∧
 R (.bool false) w)) w) w
theorem AhC(n0:JA)(c1:Addr)(K:Bool→World→Prop)(w:World)(h:Afs n0 c1 (Rt (JS) K) w):Afd n0 c1 K w:=
  fnc (A:=[]) (by kernel_rfl) Tryz.func232 Tryz.ntmps232 rfl h
end Go.Proofs.YtjiagmjfnbljjaaGreatDoor
end
