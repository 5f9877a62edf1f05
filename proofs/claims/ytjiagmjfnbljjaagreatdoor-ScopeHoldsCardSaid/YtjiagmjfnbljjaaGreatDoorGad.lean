/- Lemmas for the statement proved in the last of these texts: part 4 of 25. Conditions: none. -/
import Derived.Test.YtjiagmjfnbljjaaGreatDoorGab
section
namespace Go.Proofs.YtjiagmjfnbljjaaGreatDoor
open Go
set_option linter.unusedVariables false
set_option maxRecDepth 100000
noncomputable def YN(R:Value→World→Prop)(again31:List Value→World→Prop)(x67:Int)(x71:Int)(x72:Addr)(w:World):Prop:=
 br (x67==(0:Int))
 (JK (x72.add 1) (fun(i73:Int) w=>
 br (i73 != (4:Int))
 (R (.bool false) w)
 (again31 [.int .i64 (IntKind.i64.wrap (x71+1))] w)) w)
 (again31 [.int .i64 (IntKind.i64.wrap (x71+1))] w)
noncomputable def OE(R:Value→World→Prop)(again31:List Value→World→Prop)(a91:Sl)(x92:Int)(x93:Addr)(x94:Sl)(x96:Int)(x97:Addr)(w:World):Prop:=
 JK (x97.add 2) (fun(i98:Int) w=>
 nn x94.a fun a99=>
 0≤i98∧i98<((x94.n:Nat):Int)∧
 HN (a99.add (i98.toNat * 1)) true (fun w=>
 dw (fun w=>
 ∃ S100:World→Prop,S100 w∧
 QG S100 (x97.add 1) fun(i101:Int)=>
 br (i101==(3:Int))
 (QG S100 (x93.add 2) fun(i102:Int)=>
 br (decide (i102<(0:Int)))
 (∃ S103:World→Prop,S103 w∧
 R (.bool false) w)
 (QG S100 (x93.add 2) fun(i104:Int)=>
 nn a91.a fun a105=>
 0≤i104∧i104<((a91.n:Nat):Int)∧
 AaX S100 (a105.add (i104.toNat * 7)) fun(x106:JL)=>
 YY S100 x97 fun(s107:ByteArray)=>
 SA x106 s107 2 (fun(b108:Bool) w=>
 ∃ S109:World→Prop,S109 w∧
 br (!b108)
 (QG S109 (x93.add 2) fun(i110:Int)=>
 nn a91.a fun a111=>
 0≤i110∧i110<((a91.n:Nat):Int)∧
 AaX S109 (a111.add (i110.toNat * 7)) fun(x112:JL)=>
 YY S109 x97 fun(s113:ByteArray)=>
 SA x112 s113 3 (fun(b114:Bool) w=>
 br (!b114)
 (R (.bool false) w)
 (YN R again31 x92 x96 x97 w)) w)
 (YN R again31 x92 x96 x97 w)) w))
 (∃ S115:World→Prop,S115 w∧
 YN R again31 x92 x96 x97 w)) w) w) w
noncomputable def EQ(R:Value→World→Prop)(again31:List Value→World→Prop)(x117:Int)(x118:Addr)(x121:Int)(x122:Addr)(x123:Bool)(w:World):Prop:=
 br (x123)
 (JK (x122.add 2) (fun(i124:Int) w=>
 br (i124 != (0:Int))
 (R (.bool false) w)
 (JK (x122.add 1) (fun(i125:Int) w=>
 br (i125==(5:Int))
 (JK x118 (fun(i126:Int) w=>
 br (i126 != (3:Int))
 (R (.bool false) w)
 (YN R again31 x117 x121 x122 w)) w)
 (YN R again31 x117 x121 x122 w)) w)) w)
 (R (.bool false) w)
noncomputable def EP(R:Value→World→Prop)(again31:List Value→World→Prop)(a74:Sl)(x75:Int)(x76:Addr)(x77:Sl)(x79:Int)(x80:Addr)(x81:Int)(x82:Bool)(w:World):Prop:=
 br (x82)
 (JK (x80.add 2) (fun(i83:Int) w=>
 br (decide (i83<(0:Int)))
 (R (.bool false) w)
 (JK (x80.add 2) (fun(i84:Int) w=>
 br (decide (i84≥(x77.n:Int)))
 (R (.bool false) w)
 (JK (x80.add 2) (fun(i85:Int) w=>
 nn x77.a fun a86=>
 0≤i85∧i85<((x77.n:Nat):Int)∧
 OR (a86.add (i85.toNat * 1)) (fun(b87:Bool) w=>
 br (b87)
 (R (.bool false) w)
 (JK (x80.add 2) (fun(i88:Int) w=>
 JK (x76.add 5) (fun(i89:Int) w=>
 JK (x80.add 1) (fun(i90:Int) w=>
 br (!((decide (i88<i89))==(i90==(2:Int))))
 (R (.bool false) w)
 (OE R again31 a74 x75 x76 x77 x79 x80 w)) w) w) w)) w) w)) w)) w)
 (br (x81==(4:Int))
 (EQ R again31 x75 x76 x79 x80 (x81==(4:Int)) w)
 (EQ R again31 x75 x76 x79 x80 (x81==(5:Int)) w))
noncomputable def UZ(R:Value→World→Prop)(again31:List Value→World→Prop)(a50:Sl)(x51:Int)(x52:Addr)(x53:Sl)(x54:Sl)(x55:Int)(x56:Addr)(w:World):Prop:=
 JK (x56.add 1) (fun(i57:Int) w=>
 br (i57==(1:Int))
 (JK (x56.add 2) (fun(i58:Int) w=>
 br (decide (i58<(0:Int)))
 (R (.bool false) w)
 (JK (x56.add 2) (fun(i59:Int) w=>
 JK (x52.add 4) (fun(i60:Int) w=>
 br (decide (i59≥i60))
 (R (.bool false) w)
 (JK (x56.add 2) (fun(i61:Int) w=>
 nn x54.a fun a62=>
 0≤i61∧i61<((x54.n:Nat):Int)∧
 OR (a62.add (i61.toNat * 1)) (fun(b63:Bool) w=>
 br (b63)
 (R (.bool false) w)
 (JK (x56.add 2) (fun(i64:Int) w=>
 nn x54.a fun a65=>
 0≤i64∧i64<((x54.n:Nat):Int)∧
 HN (a65.add (i64.toNat * 1)) true (fun w=>
 YN R again31 x51 x55 x56 w) w) w)) w) w)) w) w)) w)
 (br (i57==(2:Int))
 (EP R again31 a50 x51 x52 x53 x55 x56 i57 (i57==(2:Int)) w)
 (EP R again31 a50 x51 x52 x53 x55 x56 i57 (i57==(3:Int)) w))) w
noncomputable def OD(R:Value→World→Prop)(again15:List Value→World→Prop)(a22:Sl)(x23:Int)(x24:Addr)(w:World):Prop:=
 JK (x24.add 5) (fun(i25:Int) w=>
 JK (x24.add 6) (fun(i26:Int) w=>
 rn (Instr.makeSlice 46 (.int .i64 (IntKind.i64.wrap (i25+i26))) (.int .i64 (IntKind.i64.wrap (i25+i26)))) (hSl) (fun(l27:Sl) w=>
 JK (x24.add 4) (fun(i28:Int) w=>
 rn (Instr.makeSlice 46 (.int .i64 i28) (.int .i64 i28)) (hSl) (fun(l29:Sl) w=>
 Lp (α:=Int) (fun x30=>[.int .i64 x30]) [.int .i64 0] (fun x30 again31 w=>
 AY (x24.add 3) (fun(l32:Sl) w=>
 br (decide (x30<(l32.n:Int)))
 (AY (x24.add 3) (fun(l33:Sl) w=>
 nn l33.a fun a34=>
 0≤x30∧x30<((l33.n:Nat):Int)∧
 Akx (a34.add (x30.toNat * 3)) (fun(x35:XK) w=>
 bx (.cells #[.string (⟨#[]⟩:ByteArray),.int .i64 0,.int .i64 0] 40) (fun a36 w=>
 Ak8 a36 x35 (fun w=>
 dw (fun w=>
 ∃ S37:World→Prop,S37 w∧
 br (decide (x30 > (0:Int)))
 (YY S37 a36 fun(s38:ByteArray)=>
 SQ S37 (x24.add 3) fun(l39:Sl)=>
 nn l39.a fun a40=>
 0≤(IntKind.i64.wrap (x30 - 1))∧(IntKind.i64.wrap (x30 - 1))<((l39.n:Nat):Int)∧
 YY S37 (a40.add ((IntKind.i64.wrap (x30 - 1)).toNat * 3)) fun(s41:ByteArray)=>
 br (Op.bytesLess s38.toList s41.toList)
 (R (.bool false) w)
 (YY S37 a36 fun(s42:ByteArray)=>
 SQ S37 (x24.add 3) fun(l43:Sl)=>
 nn l43.a fun a44=>
 0≤(IntKind.i64.wrap (x30 - 1))∧(IntKind.i64.wrap (x30 - 1))<((l43.n:Nat):Int)∧
 YY S37 (a44.add ((IntKind.i64.wrap (x30 - 1)).toNat * 3)) fun(s45:ByteArray)=>
 br ((s42.toList==s45.toList))
 (QG S37 (a36.add 1) fun(i46:Int)=>
 SQ S37 (x24.add 3) fun(l47:Sl)=>
 nn l47.a fun a48=>
 0≤(IntKind.i64.wrap (x30 - 1))∧(IntKind.i64.wrap (x30 - 1))<((l47.n:Nat):Int)∧
 QG S37 ((a48.add ((IntKind.i64.wrap (x30 - 1)).toNat * 3)).add 1) fun(i49:Int)=>
 br (decide (i46≤i49))
 (R (.bool false) w)
 (UZ R again31 a22 x23 x24 l27 l29 x30 a36 w))
 (UZ R again31 a22 x23 x24 l27 l29 x30 a36 w)))
 (UZ R again31 a22 x23 x24 l27 l29 x30 a36 w)) w) w) w) w) w)
 (Lp (α:=Int) (fun x127=>[.int .i64 x127]) [.int .i64 0] (fun x127 again128 w=>
 br (decide (x127<(l27.n:Int)))
 (nn l27.a fun a129=>
 0≤x127∧x127<((l27.n:Nat):Int)∧
 OR (a129.add (x127.toNat * 1)) (fun(b130:Bool) w=>
 br (!b130)
 (R (.bool false) w)
 (again128 [.int .i64 (IntKind.i64.wrap (x127+1))] w)) w)
 (again15 [.int .i64 (IntKind.i64.wrap (x23+1))] w)) w)) w) w) w) w) w) w) w
noncomputable def TF(t0:Sl)(R:Value→World→Prop)(w:World):Prop:=
 br (decide ((t0.n:Int) > (20000:Int)))
 (HQ (fun(b1:Bool) w=>
 R (.bool b1) w) w)
 (OX t0 (fun(x2:ZT) w=>
 bx (.cells #[.int .i64 0,.int .i64 0,.string (⟨#[]⟩:ByteArray),.bool false,.slice none 0 0,.slice none 0 0] 27) (fun r3 w=>
 bx (.cells #[.int .i64 0,.int .i64 0] 32) (fun r4 w=>
 JC r3 x2.x0 (fun w=>
 ZO r4 x2.x1 (fun w=>
 JK r4 (fun(i5:Int) w=>
 br (i5 != (0:Int))
 (HQ (fun(b6:Bool) w=>
 R (.bool b6) w) w)
 (JF r3 (fun(x7:JA) w=>
 KU x7 (fun(x8:YR) w=>
 bx (.cells #[.int .i64 0,.int .i64 0] 32) (fun y9 w=>
 ZO y9 x8.x1 (fun w=>
 JK y9 (fun(i10:Int) w=>
 br (i10 != (0:Int))
 (br ((x8.x0.n:Int)==(0:Int))
 (JK (y9.add 1) (fun(i11:Int) w=>
 br (decide (i11≥(0:Int)))
 (JK (y9.add 1) (fun(i12:Int) w=>
 br (decide (i12≤(t0.n:Int)))
 (HQ (fun(b13:Bool) w=>
 R (.bool b13) w) w)
 (R (.bool false) w)) w)
 (R (.bool false) w)) w)
 (R (.bool false) w))
 (Lp (α:=Int) (fun x14=>[.int .i64 x14]) [.int .i64 0] (fun x14 again15 w=>
 br (decide (x14<(x8.x0.n:Int)))
 (nn x8.x0.a fun a16=>
 0≤x14∧x14<((x8.x0.n:Nat):Int)∧
 SR (a16.add (x14.toNat * 7)) (fun(x17:JL) w=>
 bx (.cells #[.int .i64 0,.int .i64 0,.int .i64 0,.slice none 0 0,.int .i64 0,.int .i64 0,.int .i64 0] 38) (fun a18 w=>
 LU a18 x17 (fun w=>
 JK (a18.add 2) (fun(i19:Int) w=>
 br (decide (i19≥x14))
 (R (.bool false) w)
 (JK (a18.add 2) (fun(i20:Int) w=>
 br (!((x14==(0:Int))==(decide (i20<(0:Int)))))
 (R (.bool false) w)
 (JK a18 (fun(i21:Int) w=>
 br (!((i21==(1:Int))==(x14==(0:Int))))
 (R (.bool false) w)
 (OD R again15 x8.x0 x14 a18 w)) w)) w)) w) w) w) w)
 (br (decide ((x8.x0.n:Int) > (0:Int)))
 (HQ (fun(b131:Bool) w=>
 R (.bool b131) w) w)
 (R (.bool false) w))) w)) w) w) w) w) w)) w) w) w) w) w) w)
theorem Ac4(t0:Sl)(K:Bool→World→Prop)(w:World)(h:TF t0 (Rt (JS) K) w):FY t0 K w:=
  fnc (A:=[(10,[(7,QC .i64)]),(18,[(11,QC .i64)]),(43,[(13,QC .i64)])]) (by kernel_rfl) Tryz.func5 Tryz.ntmps5 rfl h
noncomputable def Afk(R:Value→World→Prop)(w:World):Prop:=
 bx (.cells #[.int .u8 97,.int .u8 32,.int .u8 61,.int .u8 32,.int .u8 98] 5) (fun a1 w=>
 rn (convert 42 42 (.slice (some a1) 5 5)) (hSl) (fun(l2:Sl) w=>
 OX l2 (fun(x3:ZT) w=>
 bx (.cells #[.int .i64 0,.int .i64 0,.string (⟨#[]⟩:ByteArray),.bool false,.slice none 0 0,.slice none 0 0] 27) (fun n4 w=>
 bx (.cells #[.int .i64 0,.int .i64 0] 32) (fun a5 w=>
 JC n4 x3.x0 (fun w=>
 ZO a5 x3.x1 (fun w=>
 JF n4 (fun(x6:JA) w=>
 KU x6 (fun(x7:YR) w=>
 bx (.cells #[.int .i64 0,.int .i64 0] 32) (fun f8 w=>
 ZO f8 x7.x1 (fun w=>
 JK f8 (fun(i9:Int) w=>
 br (i9==(0:Int))
 (br ((x7.x0.n:Int)==(1:Int))
 (nn x7.x0.a fun a10=>
 0≤(0:Int)∧(0:Int)<((x7.x0.n:Nat):Int)∧
 JK a10 (fun(i11:Int) w=>
 br (i11==(1:Int))
 (nn x7.x0.a fun a12=>
 0≤(0:Int)∧(0:Int)<((x7.x0.n:Nat):Int)∧
 JK (a12.add 2) (fun(i13:Int) w=>
 br (i13==((-1):Int))
 (nn x7.x0.a fun a14=>
 0≤(0:Int)∧(0:Int)<((x7.x0.n:Nat):Int)∧
 AY (a14.add 3) (fun(l15:Sl) w=>
 bx (.cells #[.string (⟨#[97]⟩:ByteArray),.int .i64 4,.int .i64 0,.string (⟨#[98]⟩:ByteArray),.int .i64 4,.int .i64 0] 40) (fun a16 w=>
 AbQ l15 ⟨some a16,2,2⟩ (fun(b17:Bool) w=>
 R (.bool b17) w) w) w) w)
 (R (.bool false) w)) w)
 (R (.bool false) w)) w)
 (R (.bool false) w))
 (R (.bool false) w)) w) w) w) w) w) w) w) w) w) w) w) w
theorem Ahu(K:Bool→World→Prop)(w:World)(h:Afk (Rt (JS) K) w):HQ K w:=
  fnc (A:=[]) (by kernel_rfl) Tryz.func9 Tryz.ntmps9 rfl h
noncomputable def AgH(s0:JL)(name:ByteArray)(what:Int)(R:Value→World→Prop)(w:World):Prop:=
 bx (.cells s0.cells 38) (fun s1 w=>
 Lp (α:=Int) (fun i2=>[.int .i64 i2]) [.int .i64 0] (fun i2 again3 w=>
 AY (s1.add 3) (fun(l4:Sl) w=>
 br (decide (i2<(l4.n:Int)))
 (AY (s1.add 3) (fun(l5:Sl) w=>
 nn l5.a fun a6=>
 0≤i2∧i2<((l5.n:Nat):Int)∧
 QO (a6.add (i2.toNat * 3)) (fun(s7:ByteArray) w=>
 br ((s7.toList==name.toList))
 (AY (s1.add 3) (fun(l8:Sl) w=>
 nn l8.a fun a9=>
 0≤i2∧i2<((l8.n:Nat):Int)∧
 JK ((a9.add (i2.toNat * 3)).add 1) (fun(i10:Int) w=>
 br (i10==what)
 (R (.bool true) w)
 (again3 [.int .i64 (IntKind.i64.wrap (i2+1))] w)) w) w)
 (again3 [.int .i64 (IntKind.i64.wrap (i2+1))] w)) w) w)
 (R (.bool false) w)) w) w) w
theorem AiY(s0:JL)(name:ByteArray)(what:Int)(K:Bool→World→Prop)(w:World)(h:AgH s0 name what (Rt (JS) K) w):SA s0 name what K w:=
  fnc (A:=[(2,[(7,QC .i64)])]) (by kernel_rfl) Tryz.func14 Tryz.ntmps14 rfl h
noncomputable def AgI(a0:Sl)(b0:Sl)(R:Value→World→Prop)(w:World):Prop:=
 br ((a0.n:Int) != (b0.n:Int))
 (R (.bool false) w)
 (Lp (α:=Int) (fun i1=>[.int .i64 i1]) [.int .i64 0] (fun i1 again2 w=>
 br (decide (i1<(a0.n:Int)))
 (dw (fun w=>
 ∃ S3:World→Prop,S3 w∧
 nn a0.a fun a4=>
 0≤i1∧i1<((a0.n:Nat):Int)∧
 Aed S3 (a4.add (i1.toNat * 3)) fun(x5:XK)=>
 nn b0.a fun a6=>
 0≤i1∧i1<((b0.n:Nat):Int)∧
 Aed S3 (a6.add (i1.toNat * 3)) fun(x7:XK)=>
 Av2 S3 .neq 40 (x5.v) (x7.v) (JS) fun(b8:Bool)=>
 br (b8)
 (R (.bool false) w)
 (again2 [.int .i64 (IntKind.i64.wrap (i1+1))] w)) w)
 (R (.bool true) w)) w)
theorem AiZ(a0:Sl)(b0:Sl)(K:Bool→World→Prop)(w:World)(h:AgI a0 b0 (Rt (JS) K) w):AbQ a0 b0 K w:=
  fnc (A:=[(4,[(5,QC .i64)])]) (by kernel_rfl) Tryz.func16 Tryz.ntmps16 rfl h
end Go.Proofs.YtjiagmjfnbljjaaGreatDoor
end
