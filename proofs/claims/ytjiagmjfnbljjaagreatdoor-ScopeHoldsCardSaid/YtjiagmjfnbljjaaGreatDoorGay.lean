/- The statement ScopeHolds (lexiconlaw16), for every source: the row and its tied card. Conditions: none beyond the row's own (the listed tables, tied to the program's text). -/
import Derived.Test.YtjiagmjfnbljjaaGreatDoorGax
import Derived.Test.YtjiagmjfnbljjaaGreatDoorCards
import Derived.Test.YtjiagmjfnbljjaaGreatDoorTie
import Derived.WalkKit
import Derived.ProofKit
import Derived.OpenShut
import Derived.ChangeOld
import Derived.Below
import Derived.Lib.LaidIn
import Derived.Lib.LaidU8T
import Derived.Deep.DeepHandedRow
import Derived.Deep.DeepWitnessRowRef
section
namespace Go.Proofs.YtjiagmjfnbljjaaGreatDoor
open Go.ChangeShapes Go.WideShapes Go.ChangeAt Go.RowKit
set_option linter.unusedVariables false
set_option maxRecDepth 100000
set_option maxHeartbeats 4000000
theorem own:ownKnob Tryz.prog.godebug=none:=by kernel_rfl
theorem Ati:laidOutB Tryz.prog=true:=by kernel_rfl
theorem Ext.below{w w':World}(h:Ext w w'):Below w.heap.size w w':=
  ⟨h.os,h.tape,h.output,h.size,fun k hk=>by
    rw[Array.getElem?_eq_getElem hk]
    exact h.get (Array.getElem?_eq_getElem hk)⟩
theorem At0{W:World}(h:laidMetH Tryz.prog Rows.scopeHoldsRow.laid W):Lib.Utf8Tabs 0 1 W:=by
  rw[MakeChecks.laidMetH_plain _ _ _ (by kernel_rfl)] at h
  have e1:(Rows.laid_unicode_utf8_acceptRanges:DataW Unit)=Lib.acceptData:=by kernel_rfl
  have e2:Rows.laid_unicode_utf8_first=Lib.firstData:=by kernel_rfl
  have h1:=Lib.laidMet.reads h (n:= "unicode/utf8.acceptRanges") (d:=Rows.laid_unicode_utf8_acceptRanges) (.head _)
  have h2:=Lib.laidMet.reads h (n:= "unicode/utf8.first") (d:=Rows.laid_unicode_utf8_first) (.tail _ (.head _))
  rw[e1] at h1
  rw[e2] at h2
  exact utf8Tabs_of_readsT (U8Types.of196 Ly.laysValid) ⟨by kernel_rfl,by kernel_rfl,by kernel_rfl,by kernel_rfl,by kernel_rfl,by kernel_rfl,by kernel_rfl⟩ h2 h1
theorem Avs{H:Type}{enc:TypeId×Value→H}{W:World}{fuel:Nat}{a:Option Addr}{n c:Nat}{x:DataW H×List MemPlace}(h:DataW.trod enc Tryz.prog W 0 (fun _=>true) true fuel 42 [.slice a n c] = some x):∃ S,Adp W ⟨a,n,c⟩ S:=by
  rcases open_ints Tryz.underlying42 Tryz.underlying5 (by kernel_rfl) h with⟨hcs,_⟩ | ⟨x,l,c',zs,hcs,_,hl,hm,hz,_,YV,hwz⟩
  · simp at hcs
    obtain⟨rfl,rfl,rfl⟩:=hcs
    exact⟨(⟨#[]⟩:ByteArray),rfl,Nat.le_refl _,fun _=>rfl,nofun⟩
  · simp at hcs
    obtain⟨rfl,rfl,rfl⟩:=hcs
    simp only[if_true] at hz
    have hsz:(⟨((zs.take n).map fun z=>UInt8.ofNat z.toNat).toArray⟩:ByteArray).size=n:=by
      show Array.size _=n
      simp;omega
    refine⟨⟨((zs.take n).map fun z=>UInt8.ofNat z.toNat).toArray⟩,hsz.symm,hl,nofun,fun h0 p hp => ?_⟩
    rw[hsz] at h0
    simp only[Option.some.injEq] at hp
    subst hp
    obtain⟨b,o,sp⟩:=x
    obtain rfl:sp=none:=by simpa [Addr.add] using World.cell?_spot (YV 0 (by omega))
    refine⟨rfl,fun i hi => ?_⟩
    have hi':i<n:=by rw[hsz] at hi;exact hi
    have hc:=YV i (by omega)
    rw[GQ] at hc
    have hb:=range_u8 hwz i
    have e:zs.getD i 0=zs[i]'(by omega):=by simp[List.getD,List.getElem?_eq_getElem (show i<zs.length by omega)]
    have e2:zs[i]?.getD 0=zs[i]'(by omega):=by rw[List.getElem?_eq_getElem (show i<zs.length by omega)];rfl
    rw[e2] at hb
    rw[e] at hc
    refine hc.trans ?_
    congr 2
    show _=((((zs.take n).map fun z=>UInt8.ofNat z.toNat).toArray[i]'(by simpa [ByteArray.size] using hi)).toNat:Int)
    simp only[List.getElem_toArray,List.getElem_map,List.getElem_take,UInt8.toNat_ofNat']
    omega
theorem Arq(H:Type)(enc:TypeId×Value→H)(W:World)(base:Nat)(args:Array Value)(ds gs:List (DataW H))(before:List MemPlace)
    (hval:∀ (j:Nat) t v,Tryz.f5.params[j]? = some t→args[j]? = some v→Value.okWide Tryz.prog W .any base t v)
    (hW:DataW.Whole enc Tryz.prog Tryz.f5.params.toList Rows.scopeHoldsSpec.vars false W args.toList ds gs before) (hT:Lib.Utf8Tabs 0 1 W) :
    Calls Tryz.prog 5 args W fun e W'=>∃ v,e = .returned v∧Rows.scopeHoldsSpec.post enc Tryz.prog Tryz.f5 false true false false W args v W':=by
  have hW':=hW
  obtain⟨p,q,hA0,hV,rfl,hfz,hnd⟩:=hW
  have hA:DataW.TrodAll enc Tryz.prog W 0 (fun _=>true) true Tryz.f5.params.toList args.toList ds p:=hA0
  rw[Tryz.params5] at hA hval
  obtain⟨v0,vs0,d0,ds0,p0,q0,hargs,rfl,rfl,h0,r0⟩:=trodAll_cons hA
  obtain⟨rfl,rfl,rfl⟩:=trodAll_nil r0
  obtain rfl:args=#[v0]:=by cases args;simp_all
  obtain⟨rfl,rfl⟩:=trodVars_none hV
  obtain⟨a0,n0,c0,rfl⟩:=okWide_slice Tryz.underlying42 (hval 0 42 v0 rfl rfl)
  have k0:=h0
  have lt0:∀ x∈p0,x.block<W.heap.size:=by obtain⟨m,hm⟩:=k0;exact DataW.trod_lt m _ _ _ hm
  obtain⟨S,hS⟩:∃ S,Adp W ⟨a0,n0,c0⟩ S:=by
    obtain⟨fuel,hf⟩:=h0
    exact Avs hf
  clear hA0
  have hsz:2≤W.heap.size:=by
    have h1:=(hT.2 0 (by decide)).1
    obtain⟨cs,t,fz,hb,_⟩:=Aj9 h1
    have:=ZC hb
    exact this
  have walk:FY ⟨a0,n0,c0⟩ (fun b w'=>b=true∧Ext W w') W:=Als hsz (AsM hT) hS fun w' e=>⟨rfl,e⟩
  refine Calls.mono walk fun e W' ⟨b,he,hb,hx⟩ => ?_
  subst he hb
  have bel:=Ext.below hx
  exact⟨_,rfl,_,_,_,[],_,[],hW',trodAll_mk1 (shut_bool Tryz.underlying4 _),(trodAll_cons_mk (Below.trod Ati (by kernel_rfl) (of_decide_eq_true (by kernel_rfl)) k0 bel lt0) trodAll_mk0),rfl,bel.frame _,fun h=>by cases h⟩
noncomputable def Ah4(os:Os):World:=
  let w0:=World.holding Tryz.prog os ⟨#[],#[],[]⟩
  let put (h:Array Obj) (g:Nat) (cs:Array Value):Array Obj:=h.modify g fun
    | .cells _ t frozen=>.cells cs t frozen
    | o=>o
  let h1:=put w0.heap 0 (Lib.firstTab.map fun z=>Value.int .u8 z).toArray
  let h2:=put h1 1 ((List.range 16).flatMap fun i=>[Value.int .u8 (Lib.accLo i),Value.int .u8 (Lib.accHi i)]).toArray
  { w0 with heap:=h2 }
theorem ArP(os:Os)(args:Array Value):laidMet Tryz.prog Rows.scopeHoldsRow.laid ((Ah4 os).forCall (fun _ _=>0) ⟨#[],args,[]⟩).memory:=
  (LaidIn.of_run (l:=[("unicode/utf8.acceptRanges",Rows.laid_unicode_utf8_acceptRanges),("unicode/utf8.first",Rows.laid_unicode_utf8_first)]) [1,0] 8 (by kernel_rfl) (by kernel_rfl) (by kernel_rfl) (by kernel_rfl)).met
theorem reads(os:Os){H:Type}(enc:TypeId×Value→H):∃ places,DataW.whole enc Tryz.prog ((Ah4 os).forCall (fun _ _=>0) ⟨#[],#[.slice none 0 0],[]⟩).memory Tryz.f5.params.toList Rows.scopeHoldsSpec.vars false #[Value.slice none 0 0].toList 8=some ([.nil],[],places):=
  ⟨[],by kernel_rfl⟩
theorem AuK(os:Os)(started:os.Started)(H:Type)(enc:TypeId×Value→H)(F:Stop.Interp) :
    ReturnsInHanded {} Tryz.checked os 5 .any ((OpenSpec.ofChange Rows.scopeHoldsSpec).preRow enc Tryz.prog Tryz.f5 Rows.scopeHoldsRow.domain false Rows.scopeHoldsRow.laid) (((OpenSpec.ofChange Rows.scopeHoldsSpec).at F).post enc Tryz.prog Tryz.f5 false true false false):=by
  obtain⟨places,hx⟩:=reads os enc
  refine returnsInHanded_of_row (C:=Tryz.checked) (s:=OpenSpec.ofChange Rows.scopeHoldsSpec) own started (by kernel_rfl) Tryz.func5
    (witness_row_atRef (enc:=enc) (C:=Tryz.checked) false (Ah4 os) #[.slice none 0 0] rfl (by kernel_rfl) (by kernel_rfl) (by kernel_rfl)
      (OpenSpec.preRow_of_cond 8 hx (by kernel_rfl) (fun k hk=>by cases hk) (by kernel_rfl) (ArP os _))) ?_
  intro W base args ds gs before hval hW _ _ _ hL _ _
  exact Arq H enc W base args ds gs before hval hW (At0 hL)
theorem said:Rows.ScopeHoldsSaid:=
  OpenClaim.holds_of_cond 5 Tryz.f5 rfl rfl rfl rfl rfl rfl rfl ⟨rfl,rfl,rfl,rfl,rfl⟩ rfl rfl rfl rfl rfl (by kernel_rfl) Tryz.func5 (by kernel_rfl)
    (of_decide_eq_true (by kernel_rfl)) (by unfold Func.isWrapper;first | (rw[if_pos (by decide +kernel)];kernel_rfl) | (rw[if_neg (by decide +kernel)];exact⟨rfl,rfl⟩))
    (fun os started H enc _ F=>by rw[OpenClaim.pre_eq_preRow];exact AuK os started H enc F)
theorem AvO(f:FuncId)(fn:Func)(hf:Tryz.pinned.checked.prog.funcNamed "lexicon/lexiconlaw16.ScopeHolds" = some f) (hfn:Tryz.pinned.checked.prog.funcs[f]? = some fn) :
    false=Tryz.pinned.checked.prog.looks []∧∀ (j:Nat) t,fn.params[j]? = some t→Tryz.pinned.checked.prog.wantsStandIn t=false:=by
  obtain rfl:f=5:=Option.some.inj ((show Tryz.prog.funcNamed "lexicon/lexiconlaw16.ScopeHolds" = some 5 by kernel_rfl).symm.trans hf) |>.symm
  obtain rfl:fn=Tryz.f5:=(Option.some.inj (Tryz.func5.symm.trans hfn)).symm
  refine⟨by kernel_rfl,fun j t ht => ?_⟩
  rw[Tryz.params5] at ht
  obtain rfl:t=42:=by simpa using Array.mem_of_getElem? ht
  exact(show Tryz.prog.wantsStandIn 42=false by kernel_rfl)
theorem card:Rows.ScopeHoldsCardSaid:=
  Claim7.holds_tied_plain_at .later [] _ _ _ _ said (fun _ h=>by cases h) (by kernel_rfl) (fun _ h=>by cases h) scopeHolds_row_tie rfl ⟨rfl,rfl⟩ (by kernel_rfl) rfl AvO (by kernel_rfl)
end Go.Proofs.YtjiagmjfnbljjaaGreatDoor
end
