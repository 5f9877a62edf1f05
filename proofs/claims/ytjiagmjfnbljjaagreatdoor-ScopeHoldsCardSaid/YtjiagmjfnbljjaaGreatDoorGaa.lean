/- Lemmas for the statement proved in the last of these texts: part 1 of 25. Conditions: none. -/
import Derived.WalkKit
import Derived.Orders
import Derived.OrdersHeld
import Derived.Deep.LoopGhost
section
namespace Go.Proofs.YtjiagmjfnbljjaaGreatDoor
open Go
structure UO where
  ty:Type
  val:ty→Value
abbrev Env:=List (Nat×Value)
def Env.get:Env→Nat→Option Value
  | [],_=>none
  | (k,v) :: r,t=>match Nat.beq k t with
    | true=>some v
    | false=>Env.get r t
def Env.rho(env:Env):Operand→Value
  | .tmp t=>match env.get t with
    | some v=>v
    | none=>undef
  | .const v=>v
  | .global g=>.pointer (some ⟨g,0,none⟩)
  | .func f=>.func (.func f) #[] #[]
def Env.has(env:Env):Operand→Bool
  | .tmp t=>(env.get t).isSome
  | _=>true
def br(b:Bool)(X Y:Prop):Prop:=match b with
  | true=>X
  | false=>Y
def nn(p:Option Addr)(K:Addr→Prop):Prop:=match p with
  | some a=>K a
  | none=>False
def WE(P:Program):Sem Next→Option Value
  | .pure n=>match n with
    | .value v=>some v
    | _=>none
  | .program k=>WE P (k P)
  | _=>none
def RnN(P:Program)(s:Sem Next)(h:UO)(K:h.ty→World→Prop)(w:World):Prop:=
  ∃ x w',s.run P w = .ok (.value (h.val x)) w'∧K x w'
def RnU(P:Program)(s:Sem Next)(K:World→Prop)(w:World):Prop:=
  ∃ w',s.run P w = .ok .skip w'∧K w'
def Cl(P:Program)(f:FuncId)(args:Array Value)(h:UO)(K:h.ty→World→Prop)(w:World):Prop:=
  Calls P f args w fun e w'=>∃ x,e = .returned (h.val x)∧K x w'
def LG(w:World)(o:Obj)(a:Addr)(w':World):Prop:=a=⟨w.heap.size,0,none⟩∧w' = { w with heap:=w.heap.push o }
def Drw(w w':World):Prop:=w' = { w with drawn:=w.drawn+1 }
structure Cx where
  P:Program
  H:TypeId→UO
  HC:TypeId→UO
  G:Nat→Bool
  n:Nat
  A:Nat→List (Nat×UO)
def ixE(P:Program)(t:TypeId)(b:Option Addr)(n:Nat)(j:Int)(K:Value→Prop):Prop:=
  match P.underlying t with
  | some (.slice e)=>match P.info? e with
    | some i=>nn b fun a=>0≤j∧j<n∧K (.pointer (some (a.add (j.toNat * i.size))))
    | none=>False
  | _=>False
def Ak1(i:TypeInfo)(z:Value)(len:Nat)(parts:List (Nat×Value)):Option (Array Value):=
  Instr.fill (fun k=>some (k * i.size,i.size)) ((List.range (len * i.size)).map (z.cells[· % z.cells.size]!)).toArray parts
def Arj(P:Program)(t:TypeId)(len:Nat)(parts:List (Nat×Value))(K:Value→World→Prop)(w:World):Prop:=
  match P.underlying t with
  | some (.slice e)=>match P.info? e with
    | some i=>match i.zero with
      | some z=>match Nat.ble (len * i.size) 16777216 with
        | true=>match Ak1 i z len parts with
          | some cells=>∀ a w',LG w (.cells cells e) a w'→K (.slice (some a) len len) w'
          | none=>False
        | false=>False
      | none=>False
    | none=>False
  | _=>False
def Auj(P:Program)(t:TypeId)(K:Value→World→Prop)(w:World):Prop:=
  match P.info? t with
  | some i=>match i.zero with
    | some z=>∀ a w',LG w (.cells z.cells t) a w'→K (.pointer (some a)) w'
    | none=>False
  | none=>False
def Ark(c:Cx)(st:Bool)(fv:Value)(args:Array Value)(t:TypeId)(K:Value→World→Prop)(w:World):Prop:=
  match st with
  | true=>match fv with
    | .func (.func g) first cap=>match c.G g with
      | true=>Cl c.P g (first++args++cap) (c.HC t) (fun x w'=>K ((c.HC t).val x) w') w
      | false=>False
    | _=>False
  | false=>∃ g cap,fv = .func (.func g) #[] cap∧c.G g=true∧Cl c.P g (args++cap) (c.HC t) (fun x w'=>K ((c.HC t).val x) w') w
def ArJ:Operand→Bool
  | .func _=>true
  | _=>false
def Ar9(P:Program)(o:Op)(ρ:Operand→Value):Bool:=
  match o with
  | .move _ | .assign _ | .unOp .. | .fieldAddr .. | .field .. | .build .. | .makeFunc .. | .extract .. => true
  | .binOp op t _ _ _=>match P.underlying t with
    | some (.int _)=>match op with
      | .quo | .rem | .shl | .shr=>false
      | _=>true
    | some .bool=>true
    | some .string=>match op with
      | .add=>false
      | _=>true
    | _=>false
  | .convert _ dst x=>match ρ x with
    | .int _ _=>match P.underlying dst with
      | some (.int _)=>true
      | _=>false
    | _=>false
  | .call { callee:=.builtin .len,args:=aas,.. }=>match aas.toList with
    | [x]=>match ρ x with
      | .slice _ _ _=>true
      | .string _=>true
      | _=>false
    | _=>false
  | _=>false
def AvH(it:Value)(K:Value→World→Prop)(w:World):Prop:=
  ∃ r s pos,it = .pointer (some ⟨r,0,none⟩)∧w.heap[r]? = some (.stringIter s pos)∧
    br (decide (pos<s.size))
      (∀ w',w' = { w with heap:=w.heap.setIfInBounds r (.stringIter s (pos+(Utf8.decode s pos).2)) }→K (.tuple #[.bool true,.int .i64 pos,.int .i32 (Utf8.decode s pos).1]) w')
      (K (.tuple #[.bool false]) w)
def opE(c:Cx)(o:Oper)(ρ:Operand→Value)(K:Value→World→Prop)(w:World):Prop:=
  match o.op with
  | .pick x a b=>match ρ x with
    | .bool t=>br t (K (ρ a) w) (K (ρ b) w)
    | _=>False
  | .nilCheck x=>match ρ x with
    | .pointer p=>nn p fun a=>K (.pointer (some a)) w
    | _=>False
  | .indexAddr t x i=>match ρ x,ρ i with
    | .slice b n _,.int _ j=>ixE c.P t b n j fun v=>K v w
    | _,_=>False
  | .box t x=>∀ a w',LG w (.cells (ρ x).cells t) a w'→K (.pointer (some a)) w'
  | .alloc t=>Auj c.P t K w
  | .next it true=>AvH (ρ it) K w
  | .range t x=>match ρ x,c.P.underlying t with
    | .string s,some .string=>∀ a w',LG w (.stringIter s 0) a w'→K (.pointer (some a)) w'
    | _,_=>False
  | .buildSlice t len parts=>Arj c.P t len (parts.toList.map fun p=>(p.1,ρ p.2)) K w
  | .store .. | .mapUpdate .. => RnU c.P (execOp ρ o) (fun w'=>K undef w') w
  | .call { callee:=.value f,args:=aas,.. }=>Ark c (ArJ f) (ρ f) (aas.map ρ) o.type K w
  | op=>match Ar9 c.P op ρ with
    | true=>match WE c.P (execOp ρ o) with
      | some v=>K v w
      | none=>False
    | false=>RnN c.P (execOp ρ o) (c.H o.type) (fun x w'=>K ((c.H o.type).val x) w') w
def Aoj:Op→Bool
  | .move _ | .assign _ | .pick .. | .unOp .. | .binOp .. | .fieldAddr .. | .field .. | .build .. | .makeFunc .. | .extract .. | .nilCheck _ | .indexAddr .. | .index .. | .slice .. | .load .. | .lookup .. => true
  | .call { callee:=.builtin .len,.. }=>true
  | _=>false
def looks:Op→Bool
  | .load .. | .lookup .. => true
  | _=>false
def RdS(P:Program)(S:World→Prop)(s:Sem Next)(h:UO)(K:h.ty→Prop):Prop:=
  ∃ x,(∀ w',S w'→s.run P w' = .ok (.value (h.val x)) w')∧K x
def rdE(c:Cx)(S:World→Prop)(o:Oper)(ρ:Operand→Value)(K:Value→Prop):Prop:=
  match o.op with
  | .pick x a b=>match ρ x with
    | .bool t=>br t (K (ρ a)) (K (ρ b))
    | _=>False
  | .nilCheck x=>match ρ x with
    | .pointer p=>nn p fun a=>K (.pointer (some a))
    | _=>False
  | .indexAddr t x i=>match ρ x,ρ i with
    | .slice b n _,.int _ j=>ixE c.P t b n j K
    | _,_=>False
  | op=>match Ar9 c.P op ρ with
    | true=>match WE c.P (execOp ρ o) with
      | some v=>K v
      | none=>False
    | false=>RdS c.P S (execOp ρ o) (c.H o.type) fun x=>K ((c.H o.type).val x)
def Amg:Op→Bool
  | .select .. => false
  | _=>true
def Ako(env:Env)(o:Oper):Bool:=Amg o.op && o.op.operands.toList.all env.has
def AmT(ops:Array Oper)(j:Nat):Bool:=ops.toList.any fun o=>match o.guard with
  | some (g,_)=>Nat.beq g j
  | none=>false
def Aot(ops:Array Oper)(env:Env)(o:Oper):Option Bool:=
  match o.guard with
  | none=>some true
  | some (g,want)=>match (ops[g]?).bind (·.dst) with
    | some d=>match env.get d with
      | some (.bool b)=>match b,want with
        | true,true=>some true
        | false,false=>some true
        | _,_=>some false
      | some (.tuple _)=>some false
      | _=>none
    | none=>some false
def An3(n:Nat)(env:Env)(dst:Option Tmp)(v:Value)(k:Env→Prop):Prop:=
  match dst with
  | none=>k env
  | some d=>match Nat.blt d n with
    | true=>k ((d,v) :: env)
    | false=>False
def Akn(g:Bool)(v:Value)(k:Value→Prop):Prop:=
  match g with
  | false=>k v
  | true=>match v with
    | .bool b=>br b (k (.bool true)) (k (.bool false))
    | _=>False
def Ar1(c:Cx)(ops:Array Oper)(K:Env→World→Prop):List Oper→Nat→Env→World→Prop
  | [],_,env,w=>K env w
  | o :: rest,j,env,w=>match Aot ops env o with
    | none=>False
    | some false=>An3 c.n env o.dst undef fun env'=>Ar1 c ops K rest (j+1) env' w
    | some true=>match Ako env o with
      | false=>False
      | true=>opE c o env.rho (fun v w'=>Akn (AmT ops j) v fun v=>An3 c.n env o.dst v fun env'=>Ar1 c ops K rest (j+1) env' w') w
def anc(ops:Array Oper):Nat→Nat→Nat→Bool
  | 0,_,_=>false
  | n+1,i,b=>match ops[i]? with
    | some o=>o.after.toList.any fun e=>Region.binds .any e && (Nat.beq e.on b || anc ops n e.on b)
    | none=>false
def Ahc(listed:Array Bool)(i:Nat):Bool:=listed.getD i false
def Ajo(ops:Array Oper)(listed:Array Bool):Bool:=
  (Region.ready .any ops listed).all fun i=>(List.range ops.size).all fun b => !Ahc listed b || anc ops ops.size i b
def Abv(ops:Array Oper)(listed:Array Bool):List Nat→Option Nat
  | []=>none
  | i :: r=>match ops[i]? with
    | some o=>match Aoj o.op && Region.free .any ops listed i with
      | true=>some i
      | false=>Abv ops listed r
    | none=>none
def Au5(ops:Array Oper)(listed:Array Bool):Bool:=
  (List.range ops.size).any fun i => !Ahc listed i && match ops[i]? with
    | some o=>Aoj o.op && looks o.op
    | none=>false
def AsU(rs:List Nat)(k:Nat→Prop):Prop:=match rs with
  | []=>True
  | [i]=>k i
  | i :: r=>k i∧AsU r k
def As7(c:Cx)(ops:Array Oper)(i:Nat)(env:Env)(k:Env→World→Prop)(w:World):Prop:=
  match ops[i]? with
  | none=>False
  | some o=>match Aot ops env o with
    | none=>False
    | some false=>An3 c.n env o.dst undef fun env'=>k env' w
    | some true=>match Ako env o with
      | false=>False
      | true=>opE c o env.rho (fun v w'=>Akn (AmT ops i) v fun v=>An3 c.n env o.dst v fun env'=>k env' w') w
def Aog(c:Cx)(ops:Array Oper)(next:Option (World→Prop)→Array Bool→Env→World→Prop)(S:World→Prop)(listed:Array Bool)(env:Env)(w:World)(rs:List Nat):Prop:=
  match Abv ops listed rs with
  | some i=>match ops[i]? with
    | none=>False
    | some o=>match Aot ops env o with
      | none=>False
      | some false=>An3 c.n env o.dst undef fun env'=>next (some S) (listed.setIfInBounds i true) env' w
      | some true=>match Ako env o with
        | false=>False
        | true=>rdE c S o env.rho fun v=>Akn (AmT ops i) v fun v=>An3 c.n env o.dst v fun env'=>next (some S) (listed.setIfInBounds i true) env' w
  | none=>match Ajo ops listed with
    | true=>AsU rs fun i=>As7 c ops i env (fun env' w'=>next none (listed.setIfInBounds i true) env' w') w
    | false=>AsU rs fun i=>As7 c ops i env (fun env' w'=>S w'∧next (some S) (listed.setIfInBounds i true) env' w') w
def goD(c:Cx)(ops:Array Oper)(K:Env→World→Prop):Nat→Option (World→Prop)→Array Bool→Env→World→Prop
  | 0,_,listed,env,w=>match Region.ready .any ops listed with
    | []=>K env w
    | _=>False
  | fuel+1,S,listed,env,w=>match Region.ready .any ops listed with
    | []=>K env w
    | rs=>match S with
      | none=>match Au5 ops listed with
        | true=>∃ S:World→Prop,S w∧Aog c ops (goD c ops K fuel) S listed env w rs
        | false=>Aog c ops (goD c ops K fuel) (fun _=>True) listed env w rs
      | some S=>Aog c ops (goD c ops K fuel) S listed env w rs
def Ary(c:Cx)(ops:Array Oper)(K:Env→World→Prop)(env:Env)(w:World):Prop:=
  match Region.noSelect ops with
  | true=>∀ w1,Drw w w1→goD c ops K ops.size none (Array.replicate ops.size false) env w1
  | false=>False
def Tys:List (Nat×UO)→Type
  | []=>Unit
  | s :: r=>match r with
    | []=>s.2.ty
    | _=>s.2.ty×Tys r
def Tys.sets:(l:List (Nat×UO))→Tys l→Env
  | [],_=>[]
  | [s],x=>[(s.1,s.2.val x)]
  | s :: s' :: r,x=>(s.1,s.2.val x.1) :: Tys.sets (s' :: r) x.2
def Lp{α:Type}(vals:α→List Value)(init:List Value)(body:α→(List Value→World→Prop)→World→Prop)(w:World):Prop:=
  ∃ I:Nat→α→World→Prop,(∃ n x,vals x=init∧I n x w)∧∀ n x w',I n x w'→body x (fun l w''=>∃ n' x',n'<n∧vals x'=l∧I n' x' w'') w'
def GJ(ops:Array Oper):List Nat:=ops.toList.filterMap (·.dst)
def Abt:Code→List Nat
  | .region _ ops _=>GJ ops
  | .seq a b=>Abt a++Abt b
  | .cond _ a b=>Abt a++Abt b
  | .block _ b=>Abt b
  | .loop b=>Abt b
  | _=>[]
def XQ:Code→Option Nat
  | .region id _ _=>some id
  | .seq a b=>match XQ a with
    | some i=>some i
    | none=>XQ b
  | .block _ b=>XQ b
  | .loop b=>XQ b
  | .cond _ a b=>match XQ a with
    | some i=>some i
    | none=>XQ b
  | _=>none
def Env.drop(env:Env)(ds:List Nat):Env:=env.filter fun kv => !ds.contains kv.1
def AcH(env:Env)(l:List (Nat×UO)):Bool:=l.all fun s=>(env.get s.1).isSome
def WZ(env:Env)(l:List (Nat×UO)):List Value:=l.map fun s=>env.rho (.tmp s.1)
def Aki(c:Cx):Code→Env→(Exit→Env→World→Prop)→World→Prop
  | .skip,env,K,w=>K .normal env w
  | .seq a b,env,K,w=>Aki c a env (fun e env' w'=>match e with
    | .normal=>Aki c b env' K w'
    | e=>K e env' w') w
  | .cond x a b,env,K,w=>match env.rho x with
    | .bool t=>br t (Aki c a env K w) (Aki c b env K w)
    | _=>False
  | .block id b,env,K,w=>Aki c b env (fun e env' w'=>match e with
    | .exit i=>match Nat.beq i id with
      | true=>K .normal env' w'
      | false=>K (.exit i) env' w'
    | e=>K e env' w') w
  | .loop b,env,K,w=>match AcH env (c.A ((XQ b).getD 0)) with
    | true=>Lp (fun x=>(Tys.sets (c.A ((XQ b).getD 0)) x).map (·.2)) (WZ env (c.A ((XQ b).getD 0)))
        (fun x again w'=>Aki c b (Tys.sets (c.A ((XQ b).getD 0)) x++env.drop (Abt b)) (fun e env' w''=>match e with
          | .normal=>match AcH env' (c.A ((XQ b).getD 0)) with
            | true=>again (WZ env' (c.A ((XQ b).getD 0))) w''
            | false=>False
          | e=>K e env' w'') w') w
    | false=>False
  | .exit id,env,K,w=>K (.exit id) env w
  | .ret,env,K,w=>K .ret env w
  | .region _ ops draw,env,K,w=>match draw with
    | false=>Ar1 c ops (fun env' w'=>K .normal env' w') ops.toList 0 env w
    | true=>Ary c ops (fun env' w'=>K .normal env' w') env w
  | _,_,_,_=>False
def Ar4(vs:Array Value):Value:=if h:vs.size=1 then vs[0] else .tuple vs
def Am4(c:Cx):List ResultVar→Array Value→Env→(Value→World→Prop)→World→Prop
  | [],vs,_,R,w=>R (Ar4 vs) w
  | .tmp t :: r,vs,env,R,w=>match env.get t with
    | some v=>Am4 c r (vs.push v) env R w
    | none=>False
  | .cell a t :: r,vs,env,R,w=>match env.get a with
    | some (.pointer (some ad))=>∃ x,(loadVar t ad).run c.P w = .ok ((c.H t).val x) w∧Am4 c r (vs.push ((c.H t).val x)) env R w
    | _=>False
def AmL(args:Array Value):Env:=args.toList.zipIdx.map fun p=>(p.2,p.1)
def fnE(c:Cx)(fn:Func)(args:Array Value)(R:Value→World→Prop)(w:World):Prop:=
  match fn.body with
  | some b=>Aki c b (AmL args) (fun e env w'=>match e with
    | .normal=>Am4 c fn.results.toList #[] env R w'
    | .ret=>Am4 c fn.results.toList #[] env R w'
    | _=>False) w
  | none=>False
end Go.Proofs.YtjiagmjfnbljjaaGreatDoor
end
section
namespace Go.Proofs.YtjiagmjfnbljjaaGreatDoor
open Go
theorem Ag6{P:Program}{s:Sem Next}{v:Value}(w:World)(h:WE P s=some v):s.run P w = .ok (.value v) w:=by
  induction s with
  | pure n=>
    cases n<;>simp[WE] at h
    subst h;rfl
  | program k ih=>
    simp only[WE] at h
    exact ih P h
  | _=>simp[WE] at h
structure Sat(n:Nat)(env:Env)(a:Act):Prop where
  size:a.tmps.size=n
  defs:a.defers = []
  get:∀ t v,env.get t=some v→a.tmps[t]? = some v
structure Off(ds:List Nat)(a a':Act):Prop where
  size:a'.tmps.size=a.tmps.size
  same:∀ t,t ∉ ds→a'.tmps[t]? = a.tmps[t]?
theorem Off.refl(ds:List Nat)(a:Act):Off ds a a:=⟨rfl,fun _ _=>rfl⟩
theorem Off.trans{ds:List Nat}{a b d:Act}(h:Off ds a b)(k:Off ds b d):Off ds a d:=
  ⟨k.size.trans h.size,fun t ht=>(k.same t ht).trans (h.same t ht)⟩
theorem Off.sub{ds ds':List Nat}{a b:Act}(h:Off ds a b)(hs:∀ t,t∈ds→t∈ds'):Off ds' a b:=
  ⟨h.size,fun t ht=>h.same t fun h'=>ht (hs t h')⟩
theorem Off.put{ds:List Nat}{a b:Act}(h:Off ds a b){dst:Option Tmp}(v:Value)(hd:∀ d,dst=some d→d∈ds):Off ds a (b.put dst v):=by
  cases dst with
  | none=>exact h
  | some d=>
    refine⟨by simpa [Act.put] using h.size,fun t ht => ?_⟩
    have hne:d≠t:=fun e=>ht (e▸hd d rfl)
    simp only[Act.put,Array.getElem?_setIfInBounds_ne hne]
    exact h.same t ht
theorem Sat.eval{n:Nat}{env:Env}{a:Act}(h:Sat n env a){x:Operand}(hx:env.has x=true):a.eval x=env.rho x:=by
  cases x with
  | tmp t=>
    simp only[Env.has,Option.isSome_iff_exists] at hx
    obtain⟨v,hv⟩:=hx
    have:=h.get t v hv
    simp[Act.eval,Env.rho,hv,Array.getD_eq_getD_getElem?,this]
  | const v=>rfl
  | global g=>rfl
  | func f=>rfl
theorem Sat.put{n:Nat}{env:Env}{a:Act}(h:Sat n env a){dst:Option Tmp}{v:Value}{k:Env→Prop}(hp:An3 n env dst v k):∃ env',Sat n env' (a.put dst v)∧k env':=by
  unfold An3 at hp
  cases dst with
  | none=>exact⟨env,h,hp⟩
  | some d=>
    simp only at hp
    split at hp
    · rename_i hlt
      refine⟨_,⟨by simpa [Act.put] using h.size,h.defs,fun t u hu => ?_⟩,hp⟩
      have hlt':d<n:=by simpa [Nat.blt_eq] using hlt
      simp only[Env.get] at hu
      by_cases e:d=t
      · subst e
        simp at hu
        subst hu
        have hd:d<a.tmps.size:=by rw[h.size];exact hlt'
        simp[Act.put,hd]
      · have hb:Nat.beq d t=false:=by
          rw[Bool.eq_false_iff];intro hb;exact e (Nat.eq_of_beq_eq_true hb)
        rw[hb] at hu
        simp only[Act.put,Array.getElem?_setIfInBounds_ne e]
        exact h.get t u hu
    · exact hp.elim
theorem Ad9{n:Nat}{env:Env}{o:Oper}{a:Act}(h:Sat n env a)(hh:Ako env o=true):execOp a.eval o=execOp env.rho o:=by
  simp only[Ako,Bool.and_eq_true,List.all_eq_true] at hh
  refine execOp_congr o (fun cs b hs => ?_) fun x hx=>h.eval (hh.2 x (by simpa using hx))
  have h1:=hh.1
  rw[hs] at h1
  simp[Amg] at h1
theorem NQ{n:Nat}{ops:Array Oper}{env:Env}{o:Oper}{a:Act}(h:Sat n env a){b:Bool}(hw:Aot ops env o=some b):Region.wanted o (yielded ops a.tmps)=b:=by
  unfold Aot at hw
  unfold Region.wanted
  cases hg:o.guard with
  | none=>simp[hg] at hw;simp[← hw]
  | some gw=>
    obtain⟨g,want⟩:=gw
    simp only[hg] at hw
    simp only[yielded]
    cases hd:(ops[g]?).bind (·.dst) with
    | none=>simp[hd] at hw;simp[← hw]
    | some d=>
      simp only[hd] at hw
      cases he:env.get d with
      | none=>simp[he] at hw
      | some v=>
        have hv:=h.get d v he
        simp only[he] at hw
        cases v<;>simp at hw
        case bool t=>
          simp only[Option.bind_some,hv]
          cases t<;>cases want<;>simp at hw<;>simp[← hw]
        case tuple vs=>
          simp[Option.bind_some,hv,← hw]
theorem Ad5{g:Bool}{v:Value}{k:Value→Prop}(h:Akn g v k):k v:=by
  unfold Akn at h
  cases g with
  | false=>exact h
  | true=>
    cases v<;>simp at h
    case bool b=>
      cases b
      · exact h
      · exact h
theorem AmY{p:Option Addr}{K:Addr→Prop}(h:nn p K):∃ a,p=some a∧K a:=by
  cases p with
  | none=>exact h.elim
  | some a=>exact⟨a,rfl,h⟩
theorem As2{b:Bool}{X Y:Prop}(h:br b X Y):if b=true then X else Y:=by
  cases b
  · exact h
  · exact h
theorem Apz{P:Program}{t:TypeId}{b:Option Addr}{n cap:Nat}{k:IntKind}{j:Int}{K:Value→Prop}(h:ixE P t b n j K) :
    ∃ v,(∀ w,(Instr.indexAt t (.slice b n cap) (.int k j)).run P w = .ok v w)∧K v:=by
  unfold ixE at h
  split at h
  · rename_i e hu
    split at h
    · rename_i i hi
      obtain⟨a,rfl,h0,h1,hK⟩:=AmY h
      refine⟨_,fun w => ?_,hK⟩
      have hu':P.underlying t=some (.slice e):=hu
      have hi':P.info? e=some i:=hi
      simp[Instr.indexAt,asIntOf,underlying,hu',h0,h1,sizeOf,typeInfo,hi']
    · exact h.elim
  · exact h.elim
section
variable{c:Cx}{a:Act}{o:Oper}{ρ:Operand→Value}{next:Act→World→Prop}{Q:Exit→Act→World→Prop}
def GOk(c:Cx):Prop:=∀ g,c.G g=true→∀ (args:Array Value) (w:World),(callFunc g args).run c.P w = .ok (.enter g args) w
theorem AsR{f:FuncId}{args:Array Value}{h:UO}{K:h.ty→World→Prop}{w:World}(hc:Cl c.P f args h K w)(hK:∀ x w',K x w'→next (a.put o.dst (h.val x)) w') :
    o.upon c.P a next Q (.ok (.enter f args) w):=by
  rw[Oper.upon_enter]
  refine Calls.mono hc fun e w' he => ?_
  obtain⟨x,rfl,hx⟩:=he
  exact hK x w' hx
theorem Anu(hG:GOk c){st:Bool}{fv:Value}{args:Array Value}{t:TypeId}{K:Value→World→Prop}{w:World}(h:Ark c st fv args t K w)(hK:∀ v w',K v w'→next (a.put o.dst v) w') :
    o.upon c.P a next Q ((do let d ← Deferred.ofValue fv args;invoke d.target d.args:Sem Next).run c.P w):=by
  have key:∀ (g:Nat) (first cap:Array Value) (_:c.G g=true) (_:Cl c.P g (first++args++cap) (c.HC t) (fun x w'=>K ((c.HC t).val x) w') w),o.upon c.P a next Q ((do let d ← Deferred.ofValue (.func (.func g) first cap) args;invoke d.target d.args:Sem Next).run c.P w):=by
    intro g first cap hg hc
    have hr:=hG g hg (first++args++cap) w
    have:(do let d ← Deferred.ofValue (.func (.func g) first cap) args;invoke d.target d.args:Sem Next).run c.P w=(callFunc g (first++args++cap)).run c.P w:=by
      simp[Deferred.ofValue,invoke]
    rw[this,hr]
    exact AsR hc fun x w' hx=>hK _ _ hx
  unfold Ark at h
  split at h
  · split at h
    · rename_i g first cap
      split at h
      · rename_i hg;exact key g first cap hg h
      · exact h.elim
    · exact h.elim
  · obtain⟨g,cap,rfl,hg,hc⟩:=h
    exact key g #[] cap hg (by simpa using hc)
theorem Amj(hG:GOk c){K:Value→World→Prop}{w:World}(he:execOp a.eval o=execOp ρ o)(h:opE c o ρ K w)(hK:∀ v w',K v w'→next (a.put o.dst v) w'):o.wp c.P a w next Q:=by
  unfold Oper.wp
  rw[he]
  obtain⟨dst,op,type,pos,after,guard⟩:=o
  unfold opE at h
  simp only at h hK
  split at h
  · -- pick
    rename_i x p q
    split at h
    · rename_i t ht
      cases t
      · simp[execOp,ht,asBool,Oper.upon];exact hK _ _ h
      · simp[execOp,ht,asBool,Oper.upon];exact hK _ _ h
    · exact h.elim
  · -- nilCheck
    rename_i x
    split at h
    · rename_i p hp
      obtain⟨ad,rfl,hk⟩:=AmY h
      simp[execOp,hp,Oper.upon];exact hK _ _ hk
    · exact h.elim
  · -- indexAddr
    rename_i t x i
    split at h
    · rename_i b n cap k j hb hj
      obtain⟨v,hv,hk⟩:=Apz (k:=k) (cap:=cap) h
      simp[execOp,hb,hj,hv,Oper.upon];exact hK _ _ hk
    · exact h.elim
  · -- box
    rename_i t x
    have:=h ⟨w.heap.size,0,none⟩ _ ⟨rfl,rfl⟩
    simp[execOp,Instr.box,newVar,newRow,Oper.upon];exact hK _ _ this
  · -- alloc
    rename_i t
    unfold Auj at h
    split at h
    · rename_i i hi
      split at h
      · rename_i z hz
        have:=h ⟨w.heap.size,0,none⟩ _ ⟨rfl,rfl⟩
        have hi':c.P.info? t=some i:=hi
        simp[execOp,Instr.alloc,zeroValue,typeInfo,hi',hz,newVar,newRow,Oper.upon];exact hK _ _ this
      · exact h.elim
    · exact h.elim
  · -- next
    rename_i it
    obtain⟨r,s,pos,hit,hh,h⟩:=h
    have h1:=As2 h
    have hg:(getObj r).run c.P w = .ok (.stringIter s pos) w:=by simp[getObj,Sem.run,hh]
    have hst:∀ o,(setObj r o).run c.P w = .ok () { w with heap:=w.heap.setIfInBounds r o }:=fun o=>by simp[setObj,Sem.run,hh]
    by_cases hp:pos<s.size
    · simp only[hp,decide_true,if_true] at h1
      have h2:=h1 _ rfl
      simp[execOp,hit,Instr.next,hg,hst,hp,Oper.upon,goInt];exact hK _ _ h2
    · simp only[hp,decide_false,Bool.false_eq_true,if_false] at h1
      simp[execOp,hit,Instr.next,hg,hp,Oper.upon];exact hK _ _ h1
  · -- range over a string
    rename_i t x
    split at h
    · rename_i s hx hu
      have:=h ⟨w.heap.size,0,none⟩ _ ⟨rfl,rfl⟩
      have hu':c.P.underlying t=some .string:=hu
      simp[execOp,Instr.range,hx,underlying,hu',Oper.upon];exact hK _ _ this
    · exact h.elim
  · -- buildSlice
    rename_i t len parts
    unfold Arj at h
    split at h
    · rename_i e hu
      split at h
      · rename_i i hi
        split at h
        · rename_i z hz
          split at h
          · rename_i hle
            split at h
            · rename_i cells hcells
              have:=h ⟨w.heap.size,0,none⟩ _ ⟨rfl,rfl⟩
              have hu':c.P.underlying t=some (.slice e):=hu
              have hi':c.P.info? e=some i:=hi
              have hle':¬ (16777216<len * i.size):=by
                have:=Nat.le_of_ble_eq_true hle;omega
              have hle2:¬ (2 ^ 24<len * i.size):=hle'
              have hcells':Instr.fill (fun k=>some (k * i.size,i.size)) ((Array.range (len * i.size)).map (z.cells[· % z.cells.size]!)) (parts.toList.map fun p=>(p.1,ρ p.2))=some cells:=by
                rw[← hcells];unfold Ak1;congr 1
                simp[Array.toList_range,← Array.toList_inj]
              by_cases h0:len * i.size=0
              · rw[h0] at hcells'
                have r0:∀ f:Nat→Value,(Array.range 0).map f=#[]:=fun f=>by simp[← Array.toList_inj,Array.toList_range]
                rw[r0] at hcells'
                simp[execOp,Instr.buildSlice,underlying,hu',sizeOf,typeInfo,hi',h0,r0,hcells',newRow,Oper.upon]
                exact hK _ _ this
              · simp[execOp,Instr.buildSlice,underlying,hu',sizeOf,typeInfo,hi',hle2,h0,zeroValue,hz,hcells',newRow,Oper.upon]
                exact hK _ _ this
            · exact h.elim
          · exact h.elim
        · exact h.elim
      · exact h.elim
    · exact h.elim
  · -- store
    obtain⟨w',hr,hk⟩:=h
    rw[hr];exact hK _ _ hk
  · -- mapUpdate
    obtain⟨w',hr,hk⟩:=h
    rw[hr];exact hK _ _ hk
  · -- call of a function
    rename_i f aas ats
    have:=Anu (a:=a) (o:=⟨dst,.call { callee:=.value f,args:=aas,argTypes:=ats },type,pos,after,guard⟩) (next:=next) (Q:=Q) hG h hK
    exact this
  · split at h
    · split at h
      · rename_i v hv
        rw[Ag6 w hv];exact hK _ _ h
      · exact h.elim
    · obtain⟨x,w',hr,hk⟩:=h
      rw[hr];exact hK _ _ hk
end
theorem WM{ops:Array Oper}{o:Oper}(ho:o∈ops.toList){d:Tmp}(hd:o.dst=some d):d∈GJ ops:=
  List.mem_filterMap.2 ⟨o,ho,hd⟩
theorem Agh{c:Cx}(hG:GOk c){ops:Array Oper}{K:Env→World→Prop}{Q:Exit→Act→World→Prop}{a0:Act}
    (hK:∀ env a w,Sat c.n env a→Off (GJ ops) a0 a→K env w→Q .normal a w) :
    ∀ (l:List Oper) (j:Nat) (env:Env) (a:Act) (w:World),(∀ o∈l,o∈ops.toList)→Sat c.n env a→Off (GJ ops) a0 a→Ar1 c ops K l j env w→wpList c.P ops Q l a w
  | [],_,env,a,w,_,hs,ho,h=>hK env a w hs ho h
  | o :: rest,j,env,a,w,hl,hs,ho,h=>by
    have hmem:=hl o (by simp)
    have hrest:∀ o∈rest,o∈ops.toList:=fun o h=>hl o (by simp[h])
    have hoff:∀ v,Off (GJ ops) a0 (a.put o.dst v):=fun v=>ho.put v fun d hd=>WM hmem hd
    unfold Ar1 at h
    unfold wpList
    split at h
    · exact h.elim
    · rename_i hw
      rw[NQ hs hw]
      simp only[Bool.false_eq_true,if_false]
      obtain⟨env',hs',h'⟩:=hs.put h
      exact Agh hG hK rest (j+1) env' _ w hrest hs' (hoff _) h'
    · rename_i hw
      rw[NQ hs hw]
      simp only[if_true]
      split at h
      · exact h.elim
      · rename_i hh
        refine .inl (Amj hG (Ad9 hs hh) h fun v w' hv => ?_)
        obtain⟨env',hs',h'⟩:=hs.put (Ad5 hv)
        exact Agh hG hK rest (j+1) env' _ w' hrest hs' (hoff _) h'
section
variable{P:Program}{ops:Array Oper}{Q:Exit→Act→World→Prop}{S:World→Prop}
def Aqb(P:Program)(ops:Array Oper)(Q:Exit→Act→World→Prop)(S:World→Prop):Nat→Array Bool→Act→World→Prop
  | 0,listed,a,w=>(Ajo ops listed=true∧wpAny P .any ops Q 0 listed a w)∨(Region.ready .any ops listed = []∧Q .normal a w)
  | fuel+1,listed,a,w=>(Ajo ops listed=true∧wpAny P .any ops Q (fuel+1) listed a w)∨
    ((Region.ready .any ops listed = []→Q .normal a w)∧
    ∀ i∈Region.ready .any ops listed,wpOp P ops Q i (fun a' w'=>S w'∧Aqb P ops Q S fuel (listed.setIfInBounds i true) a' w') a w)
theorem Aa9:∀ (fuel:Nat) (listed:Array Bool) (a:Act) (w:World),Aqb P ops Q S fuel listed a w→wpAny P .any ops Q fuel listed a w
  | 0,_,_,_,h=>by
    rcases h with h | h
    · exact h.2
    · exact h
  | fuel+1,_,_,_,h=>by
    rcases h with h | h
    · exact h.2
    · exact⟨h.1,fun i hi=>wpOp_mono (fun a' w' h'=>Aa9 fuel _ a' w' h'.2) (h.2 i hi)⟩
def PW(ops:Array Oper)(listed:Array Bool):Prop:=
  ∀ j oj,ops[j]? = some oj→listed.getD j false=true→∀ e∈oj.after,Region.binds .any e=true→listed.getD e.on false=true
theorem PW.set{listed:Array Bool}{i:Nat}(h:PW ops listed)(hi:i∈Region.ready .any ops listed):PW ops (listed.setIfInBounds i true):=by
  obtain⟨_,oi,hoi,hall⟩:=mem_ready.1 hi
  intro j oj hj hl e he hb
  by_cases hij:i=j
  · subst hij
    have:oj=oi:=Option.some.inj (hj.symm.trans hoi)
    subst this
    exact getD_set_true (hall e he hb)
  · rw[getD_set_ne false hij] at hl
    exact getD_set_true (h j oj hj hl e he hb)
theorem PW.none(n:Nat):PW ops (Array.replicate n false):=by
  intro j oj _ hl
  exfalso
  have:(Array.replicate n false).getD j false=false:=by
    rcases Nat.lt_or_ge j n with h | h<;>simp[h]
  rw[this] at hl
  cases hl
theorem Aj3{listed:Array Bool}(hc:PW ops listed):∀ (n i b:Nat),anc ops n i b=true→
    (∀ o,ops[i]? = some o→∀ e∈o.after,Region.binds .any e=true→listed.getD e.on false=true)→listed.getD b false=true
  | 0,_,_,h,_=>by simp[anc] at h
  | n+1,i,b,h,hi=>by
    unfold anc at h
    split at h
    · rename_i o ho
      obtain⟨e,he,hb⟩:=List.any_eq_true.1 h
      simp only[Bool.and_eq_true,Bool.or_eq_true] at hb
      have hl:=hi o ho e (by simpa using he) hb.1
      rcases hb.2 with h1 | h1
      · rw[← Nat.eq_of_beq_eq_true h1];exact hl
      · exact Aj3 hc n e.on b h1 fun o' ho' e' he' hb'=>hc _ _ ho' hl e' he' hb'
    · cases h
theorem AkP{listed:Array Bool}{i j:Nat}(hc:PW ops listed)(hi:i∈Region.ready .any ops listed)(hb:Ajo ops (listed.setIfInBounds i true)=true)(hj:j∈Region.ready .any ops listed):j=i:=by
  by_cases hne:j=i
  · exact hne
  · exfalso
    have hj':=ready_mono hj hne
    have h1:=List.all_eq_true.1 hb j hj'
    obtain⟨hun,oi,hoi,_⟩:=mem_ready.1 hi
    have hlt:i<ops.size:=(Array.getElem?_eq_some_iff.1 hoi).1
    have h2:=List.all_eq_true.1 h1 i (List.mem_range.2 hlt)
    have hin:i<listed.size:=by
      rcases Nat.lt_or_ge i listed.size with h | h
      · exact h
      · simp[Array.getElem?_eq_none h] at hun
    have h3:Ahc (listed.setIfInBounds i true) i=true:=by simp[Ahc,hin]
    rw[h3] at h2
    simp only[Bool.not_true,Bool.false_or] at h2
    obtain⟨_,oj,hoj,hall⟩:=mem_ready.1 hj
    have h4:=Aj3 hc ops.size j i h2 fun o ho e he hbe=>by
      have:o=oj:=Option.some.inj (ho.symm.trans hoj)
      subst this
      exact hall e he hbe
    simp[hin] at hun h4
    rw[hun] at h4
    cases h4
theorem Aj5{i:Nat}{oi:Oper}{v:Value}(hi:ops[i]? = some oi)(hsel:∀ (j:Nat) (o:Oper) cs b,ops[j]? = some o→o.op≠.select cs b)
    (hQ:∀ c a w,¬ Q (.panic c) a w) :
    ∀ (fuel:Nat) (listed:Array Bool) (a:Act) (w:World),PW ops listed→
      (∀ j oj,ops[j]? = some oj→j≠i→listed.getD j true=false→(∀ e∈oj.after,Region.binds .any e=true→e.on≠i)→oi.apart ops oj=true)→
      i∈Region.ready .any ops listed→YieldsIf P ops S oi v a→S w→
      Aqb P ops Q S fuel (listed.setIfInBounds i true) (a.put oi.dst v) w→Aqb P ops Q S (fuel+1) listed a w:=by
  have hQ':∀ c a w,Q (.panic c) (Act.put a oi.dst v) w→Q (.panic c) a w:=fun c a w h=>(hQ _ _ _ h).elim
  intro fuel
  induction fuel with
  | zero=>
    intro listed a w hcl _ hr hy hS H
    refine .inr ⟨fun h=>(by rw[h] at hr;cases hr),fun j hj => ?_⟩
    by_cases hji:j=i
    · subst hji;exact hy.wpOp hi hS ⟨hS,H⟩
    · exfalso
      rcases H with H | H
      · exact hji (AkP hcl hr H.1 hj)
      · have:=ready_mono hj hji
        rw[H.1] at this
        cases this
  | succ fuel ih=>
    intro listed a w hcl hfree hr hy hS H
    refine .inr ⟨fun h=>(by rw[h] at hr;cases hr),fun j hj => ?_⟩
    by_cases hji:j=i
    · subst hji;exact hy.wpOp hi hS ⟨hS,H⟩
    · rcases H with H | H
      · exact absurd (AkP hcl hr H.1 hj) hji
      have h1:=H.2 j (ready_mono hj hji)
      obtain⟨hjun,oj,hoj,hall⟩:=mem_ready.1 hj
      have hnot:∀ e∈oj.after,Region.binds .any e=true→e.on≠i:=fun e he hb heq=>by
        have h1:=hall e he hb
        have h0:=(mem_ready.1 hr).1
        rw[heq] at h1
        rcases Nat.lt_or_ge i listed.size with h' | h'
        · simp[h'] at h0 h1;rw[h0] at h1;cases h1
        · simp[Array.getElem?_eq_none h'] at h1
      have h2:=wpOp_putIf hoj (hfree j oj hoj hji hjun hnot) (fun cs b=>hsel i oi cs b hi) (fun cs b=>hsel j oj cs b hoj) hQ' hy h1
      have hfree':∀ k ok,ops[k]? = some ok→k≠i→(listed.setIfInBounds j true).getD k true=false→
          (∀ e∈ok.after,Region.binds .any e=true→e.on≠i)→oi.apart ops ok=true:=fun k ok hk hki hun hno=>by
        refine hfree k ok hk hki ?_ hno
        by_cases hjk:j=k
        · subst hjk;exact hjun
        · rw[getD_set_ne true hjk] at hun;exact hun
      refine wpOp_mono (fun a' w' h3=>⟨h3.2.1,ih (listed.setIfInBounds j true) a' w' (hcl.set hj) hfree' (ready_mono hr (Ne.symm hji)) h3.1 h3.2.1 ?_⟩) h2
      rw[Array.setIfInBounds_comm _ _ hji]
      exact h3.2.2
end
theorem Ajg{c:Cx}{ops:Array Oper}{S:World→Prop}{o:Oper}{ρ:Operand→Value}{a:Act}{k:Value→Prop}(hw:Region.wanted o (yielded ops a.tmps)=true)
    (he:execOp a.eval o=execOp ρ o) (h:rdE c S o ρ k):∃ v,YieldsIf c.P ops S o v a∧k v:=by
  obtain⟨dst,op,type,pos,after,guard⟩:=o
  unfold rdE at h
  simp only at h
  have mk:∀ v,(∀ w,S w→(execOp ρ ⟨dst,op,type,pos,after,guard⟩).run c.P w = .ok (.value v) w)→k v→∃ v,YieldsIf c.P ops S ⟨dst,op,type,pos,after,guard⟩ v a∧k v:=
    fun v hv hk=>⟨v,.inl ⟨hw,fun w hw'=>by rw[he];exact hv w hw'⟩,hk⟩
  split at h
  · rename_i x p q
    split at h
    · rename_i t ht
      cases t
      · exact mk (ρ q) (fun w _=>by simp[execOp,ht,asBool]) h
      · exact mk (ρ p) (fun w _=>by simp[execOp,ht,asBool]) h
    · exact h.elim
  · rename_i x
    split at h
    · rename_i p hp
      obtain⟨ad,rfl,hk⟩:=AmY h
      exact mk _ (fun w _=>by simp[execOp,hp]) hk
    · exact h.elim
  · rename_i t x i
    split at h
    · rename_i b n cap kk j hb hj
      obtain⟨v,hv,hk⟩:=Apz (k:=kk) (cap:=cap) h
      exact mk v (fun w _=>by simp[execOp,hb,hj,hv]) hk
    · exact h.elim
  · split at h
    · split at h
      · rename_i v hv
        exact mk v (fun w _=>Ag6 w hv) h
      · exact h.elim
    · obtain⟨x,hr,hk⟩:=h
      exact mk _ hr hk
section
variable{c:Cx}{ops:Array Oper}{K:Env→World→Prop}{Q:Exit→Act→World→Prop}{a0:Act}
theorem Akf(hG:GOk c){i:Nat}{env:Env}{k:Env→World→Prop}{k':Act→World→Prop}{w:World}{a:Act}
    (hs:Sat c.n env a) (ho:Off (GJ ops) a0 a) (h:As7 c ops i env k w)
    (hk:∀ env' a' w',Sat c.n env' a'→Off (GJ ops) a0 a'→k env' w'→k' a' w'):wpOp c.P ops Q i k' a w:=by
  unfold As7 at h
  unfold wpOp
  split at h
  · exact h.elim
  · rename_i o hi
    rw[hi]
    simp only
    have hmem:o∈ops.toList:=by
      have:=Array.mem_of_getElem? hi
      simpa using this
    have hoff:∀ v,Off (GJ ops) a0 (a.put o.dst v):=fun v=>ho.put v fun d hd=>WM hmem hd
    split at h
    · exact h.elim
    · rename_i hw
      rw[NQ hs hw]
      simp only[Bool.false_eq_true,if_false]
      obtain⟨env',hs',h'⟩:=hs.put h
      exact hk env' _ w hs' (hoff _) h'
    · rename_i hw
      rw[NQ hs hw]
      simp only[if_true]
      split at h
      · exact h.elim
      · rename_i hh
        refine .inl (Amj hG (Ad9 hs hh) h fun v w' hv => ?_)
        obtain⟨env',hs',h'⟩:=hs.put (Ad5 hv)
        exact hk env' _ w' hs' (hoff _) h'
theorem AhP{k:Nat→Prop}:∀ {rs:List Nat},AsU rs k→∀ i∈rs,k i
  | [],_,i,hi=>by cases hi
  | [j],h,i,hi=>by
    rw[List.mem_singleton] at hi;subst hi;exact h
  | j :: j' :: r,h,i,hi=>by
    rcases List.mem_cons.1 hi with rfl | hi
    · exact h.1
    · exact AhP h.2 i hi
theorem Ad2{listed:Array Bool}:∀ {rs:List Nat} {i:Nat},Abv ops listed rs=some i→i∈rs∧∃ o,ops[i]? = some o∧Region.free .any ops listed i=true
  | [],_,h=>by simp[Abv] at h
  | j :: r,i,h=>by
    unfold Abv at h
    split at h
    · rename_i o ho
      split at h
      · rename_i hb
        simp only[Option.some.injEq] at h
        subst h
        simp only[Bool.and_eq_true] at hb
        exact⟨by simp,o,ho,hb.2⟩
      · have:=Ad2 h
        exact⟨by simp[this.1],this.2⟩
    · cases h
def Aub(c:Cx)(ops:Array Oper)(Q:Exit→Act→World→Prop)(fuel:Nat)(S:Option (World→Prop))(listed:Array Bool)(a:Act)(w:World):Prop:=
  match S with
  | none=>wpAny c.P .any ops Q fuel listed a w
  | some S=>Aqb c.P ops Q S fuel listed a w
theorem AeD(hG:GOk c)(hns:Region.noSelect ops=true)(hQ:∀ e a w,¬ Q (.panic e) a w){fuel:Nat}{next:Option (World→Prop)→Array Bool→Env→World→Prop}
    (hnext:∀ S listed env a w,PW ops listed→Sat c.n env a→Off (GJ ops) a0 a→(∀ S',S=some S'→S' w)→next S listed env w→Aub c ops Q fuel S listed a w)
    {S:World→Prop} {listed:Array Bool} {env:Env} {a:Act} {w:World} (hc:PW ops listed) (hs:Sat c.n env a) (ho:Off (GJ ops) a0 a) (hS:S w) (hne:Region.ready .any ops listed≠[])
    (h:Aog c ops next S listed env w (Region.ready .any ops listed)):Aqb c.P ops Q S (fuel+1) listed a w:=by
  unfold Aog at h
  split at h
  · rename_i i hi
    obtain⟨hmem,o,hio,hfree⟩:=Ad2 hi
    rw[hio] at h
    simp only at h
    have hcl:=hc.set hmem
    have hom:o∈ops.toList:=by
      have:=Array.mem_of_getElem? hio
      simpa using this
    have hoff:∀ v,Off (GJ ops) a0 (a.put o.dst v):=fun v=>ho.put v fun d hd=>WM hom hd
    split at h
    · exact h.elim
    · rename_i hw
      obtain⟨env',hs',h'⟩:=hs.put h
      exact Aj5 hio (Region.noSelect_spec hns) hQ fuel listed a w hc (Region.free_spec hio hfree) hmem (.inr ⟨NQ hs hw,rfl⟩) hS
        (hnext _ _ _ _ _ hcl hs' (hoff _) (fun S' e=>by cases e;exact hS) h')
    · rename_i hw
      split at h
      · exact h.elim
      · rename_i hh
        obtain⟨v,hy,hv⟩:=Ajg (NQ hs hw) (Ad9 hs hh) h
        obtain⟨env',hs',h'⟩:=hs.put (Ad5 hv)
        exact Aj5 hio (Region.noSelect_spec hns) hQ fuel listed a w hc (Region.free_spec hio hfree) hmem hy hS
          (hnext _ _ _ _ _ hcl hs' (hoff _) (fun S' e=>by cases e;exact hS) h')
  · split at h
    · rename_i hb
      refine .inl ⟨hb,fun h0=>absurd h0 hne,fun i hi => ?_⟩
      refine Akf hG hs ho (AhP h i hi) fun env' a' w' hs' ho' h' => ?_
      exact hnext none _ _ _ _ (hc.set hi) hs' ho' (fun _ e=>by cases e) h'
    · refine .inr ⟨fun h0=>absurd h0 hne,fun i hi => ?_⟩
      refine Akf hG hs ho (AhP h i hi) fun env' a' w' hs' ho' h' => ?_
      exact⟨h'.1,hnext (some S) _ _ _ _ (hc.set hi) hs' ho' (fun S' e=>by cases e;exact h'.1) h'.2⟩
theorem Al4(hG:GOk c)(hns:Region.noSelect ops=true)(hQ:∀ e a w,¬ Q (.panic e) a w)
    (hK:∀ env a w,Sat c.n env a→Off (GJ ops) a0 a→K env w→Q .normal a w) :
    ∀ (fuel:Nat) (S:Option (World→Prop)) (listed:Array Bool) (env:Env) (a:Act) (w:World),PW ops listed→Sat c.n env a→Off (GJ ops) a0 a→(∀ S',S=some S'→S' w)→
      goD c ops K fuel S listed env w→Aub c ops Q fuel S listed a w
  | 0,S,listed,env,a,w,hc,hs,ho,hS,h=>by
    unfold goD at h
    split at h
    · rename_i hr
      cases S with
      | none=>exact⟨hr,hK env a w hs ho h⟩
      | some S=>exact .inr ⟨hr,hK env a w hs ho h⟩
    · exact h.elim
  | fuel+1,S,listed,env,a,w,hc,hs,ho,hS,h=>by
    unfold goD at h
    split at h
    · rename_i hr
      cases S with
      | none=>exact⟨fun _=>hK env a w hs ho h,by rw[hr];simp⟩
      | some S=>exact .inr ⟨fun _=>hK env a w hs ho h,by rw[hr];simp⟩
    · rename_i hr
      have ih:=Al4 hG hns hQ hK fuel
      split at h
      · split at h
        · obtain⟨S,hSw,h⟩:=h
          exact Aa9 (S:=S) _ _ _ _ (AeD hG hns hQ ih hc hs ho hSw hr h)
        · exact Aa9 (S:=fun _=>True) _ _ _ _ (AeD hG hns hQ ih hc hs ho trivial hr h)
      · rename_i S
        exact AeD hG hns hQ ih hc hs ho (hS S rfl) hr h
theorem AnD(hG:GOk c)(hm:c.P.follows .mixedOrders=true)(hQ:∀ e a w,¬ Q (.panic e) a w)
    (hK:∀ env a w,Sat c.n env a→Off (GJ ops) a0 a→K env w→Q .normal a w) {id:Nat} {env:Env} {a:Act} {w:World} (hs:Sat c.n env a) (ho:Off (GJ ops) a0 a)
    (h:Ary c ops K env w):(Code.region id ops true).wp c.P Q a w:=by
  unfold Ary at h
  split at h
  · rename_i hns
    refine wp_region_any hm ?_
    exact Al4 hG hns hQ hK ops.size none _ env a _ (PW.none _) hs ho (fun _ e=>by cases e) (h _ rfl)
  · exact h.elim
end
def Anp(c:Cx)(ds:List Nat)(a0:Act)(K:Exit→Env→World→Prop):Exit→Act→World→Prop
  | .normal,a,w=>∃ env,Sat c.n env a∧Off ds a0 a∧K .normal env w
  | .ret,a,w=>∃ env,Sat c.n env a∧Off ds a0 a∧K .ret env w
  | .exit i,a,w=>∃ env,Sat c.n env a∧Off ds a0 a∧K (.exit i) env w
  | _,_,_=>False
theorem Anp.mono{c:Cx}{ds ds':List Nat}{a0 a1:Act}{K K':Exit→Env→World→Prop}(h01:Off ds' a0 a1)(hs:∀ t,t∈ds→t∈ds'){e:Exit}{a:Act}{w:World}
    (h:Anp c ds a1 K e a w) (hK:∀ env,K e env w→K' e env w):Anp c ds' a0 K' e a w:=by
  cases e with
  | normal=>obtain⟨env,h1,h2,h3⟩:=h;exact⟨env,h1,h01.trans (h2.sub hs),hK _ h3⟩
  | ret=>obtain⟨env,h1,h2,h3⟩:=h;exact⟨env,h1,h01.trans (h2.sub hs),hK _ h3⟩
  | exit i=>obtain⟨env,h1,h2,h3⟩:=h;exact⟨env,h1,h01.trans (h2.sub hs),hK _ h3⟩
  | goto l=>exact h
  | panic ch=>exact h
  | outgrown=>exact h
theorem AoJ{A B:Env}{t:Nat}{v:Value}(h:Env.get (A++B) t=some v):A.get t=some v∨B.get t=some v:=by
  induction A with
  | nil=>exact .inr h
  | cons x r ih=>
    obtain⟨k,u⟩:=x
    simp only[List.cons_append,Env.get] at h ⊢
    split at h
    · exact .inl h
    · exact ih h
theorem ArF{env:Env}{ds:List Nat}{t:Nat}{v:Value}(h:(Env.drop env ds).get t=some v):t ∉ ds∧env.get t=some v:=by
  induction env with
  | nil=>simp[Env.drop,Env.get] at h
  | cons x r ih=>
    obtain⟨k,u⟩:=x
    by_cases hk:k∈ds
    · have e:Env.drop ((k,u) :: r) ds=Env.drop r ds:=by simp[Env.drop,hk]
      rw[e] at h
      obtain⟨h1,h2⟩:=ih h
      refine⟨h1,?_⟩
      have hb:Nat.beq k t=false:=by
        rw[Bool.eq_false_iff];intro hb
        exact h1 (Nat.eq_of_beq_eq_true hb▸hk)
      simp only[Env.get,hb];exact h2
    · have e:Env.drop ((k,u) :: r) ds=(k,u) :: Env.drop r ds:=by simp[Env.drop,hk]
      rw[e] at h
      simp only[Env.get] at h ⊢
      split at h
      · rename_i hb
        exact⟨Nat.eq_of_beq_eq_true hb▸hk,h⟩
      · exact ih h
theorem An9:∀ (l:List (Nat×UO)) (x:Tys l) (env:Env) (t:Nat) (v:Value),AcH env l=true→(Tys.sets l x).map (·.2)=WZ env l→(Tys.sets l x).get t=some v→env.get t=some v
  | [],_,_,_,_,_,_,h=>by simp[Tys.sets,Env.get] at h
  | [s],x,env,t,v,hin,hv,h=>by
    simp only[Tys.sets,Env.get] at h
    split at h
    · rename_i hb
      have e:=Nat.eq_of_beq_eq_true hb
      simp only[AcH,List.all_cons,List.all_nil,Bool.and_true,Option.isSome_iff_exists] at hin
      obtain⟨u,hu⟩:=hin
      simp only[Tys.sets,WZ,List.map_cons,List.map_nil,List.cons.injEq,and_true,Env.rho,hu] at hv
      rw[← e,hu,← hv];exact h
    · cases h
  | s :: s' :: r,x,env,t,v,hin,hv,h=>by
    simp only[Tys.sets,Env.get] at h
    simp only[AcH,List.all_cons,Bool.and_eq_true] at hin
    split at h
    · rename_i hb
      have e:=Nat.eq_of_beq_eq_true hb
      obtain⟨u,hu⟩:=Option.isSome_iff_exists.1 hin.1
      simp only[Tys.sets,WZ,List.map_cons,List.cons.injEq,Env.rho,hu] at hv
      rw[← e,hu,← hv.1];exact h
    · refine An9 (s' :: r) x.2 env t v (by simp only[AcH,List.all_cons,Bool.and_eq_true];exact hin.2) ?_ h
      simp only[Tys.sets,WZ,List.map_cons,List.cons.injEq] at hv ⊢
      exact hv.2
theorem KF{c:Cx}(hG:GOk c)(hm:c.P.follows .mixedOrders=true) :
    ∀ (code:Code) (env:Env) (K:Exit→Env→World→Prop) (a:Act) (w:World),Sat c.n env a→Aki c code env K w→code.wp c.P (Anp c (Abt code) a K) a w
  | .skip,env,K,a,w,hs,h=>wp_skip ⟨env,hs,.refl _ _,h⟩
  | .exit id,env,K,a,w,hs,h=>wp_exit ⟨env,hs,.refl _ _,h⟩
  | .ret,env,K,a,w,hs,h=>wp_ret ⟨env,hs,.refl _ _,h⟩
  | .goto _,env,K,a,w,hs,h=>h.elim
  | .label _,env,K,a,w,hs,h=>h.elim
  | .scope _,env,K,a,w,hs,h=>h.elim
  | .rangeFunc ..,env,K,a,w,hs,h=>h.elim
  | .refuse _,env,K,a,w,hs,h=>h.elim
  | .seq x y,env,K,a,w,hs,h=>by
    refine wp_seq (wp_mono (KF hG hm x env _ a w hs h) fun e a' w' hq => ?_)
    cases e with
    | normal=>
      obtain⟨env',hs',ho',h'⟩:=hq
      exact wp_mono (KF hG hm y env' K a' w' hs' h') fun e a'' w'' hq'=>hq'.mono (ho'.sub fun t ht=>by simp[Abt,ht]) (fun t ht=>by simp[Abt,ht]) fun _ h=>h
    | ret=>exact Anp.mono (K':=K) (.refl _ _) (fun t ht=>by simp[Abt,ht]) hq fun _ h=>h
    | exit i=>exact Anp.mono (K':=K) (.refl _ _) (fun t ht=>by simp[Abt,ht]) hq fun _ h=>h
    | goto l=>exact hq.elim
    | panic ch=>exact hq.elim
    | outgrown=>exact hq.elim
  | .cond x p q,env,K,a,w,hs,h=>by
    unfold Aki at h
    split at h
    · rename_i t ht
      have he:a.eval x = .bool t:=by
        have hx:env.has x=true:=by
          cases x with
          | tmp t=>
            simp only[Env.has,Env.rho] at *
            cases hg:env.get t with
            | none=>rw[hg] at ht;simp[undef] at ht
            | some v=>rfl
          | _=>rfl
        rw[hs.eval hx];exact ht
      refine wp_cond he ?_
      cases t
      · exact wp_mono (KF hG hm q env K a w hs h) fun e a'' w'' hq'=>hq'.mono (.refl _ _) (fun t ht=>by simp[Abt,ht]) fun _ h=>h
      · exact wp_mono (KF hG hm p env K a w hs h) fun e a'' w'' hq'=>hq'.mono (.refl _ _) (fun t ht=>by simp[Abt,ht]) fun _ h=>h
    · exact h.elim
  | .block id b,env,K,a,w,hs,h=>by
    refine wp_block (wp_mono (KF hG hm b env _ a w hs h) fun e a' w' hq => ?_)
    cases e with
    | normal=>exact hq
    | ret=>exact hq
    | exit i=>
      obtain⟨env',hs',ho',h'⟩:=hq
      simp only at h'
      simp only[Exit.inBlock]
      by_cases e:i=id
      · rw[if_pos e]
        subst e
        have hb:Nat.beq i i=true:=Nat.beq_refl i
        rw[hb] at h'
        exact⟨env',hs',ho',h'⟩
      · rw[if_neg e]
        have hb:Nat.beq i id=false:=by
          rw[Bool.eq_false_iff];intro hb;exact e (Nat.eq_of_beq_eq_true hb)
        rw[hb] at h'
        exact⟨env',hs',ho',h'⟩
    | goto l=>exact hq.elim
    | panic ch=>exact hq.elim
    | outgrown=>exact hq.elim
  | .loop b,env,K,a,w,hs,h=>by
    unfold Aki at h
    split at h
    · rename_i hin
      obtain⟨I,⟨n0,x0,hx0,hI0⟩,hround⟩:=h
      have hsat:∀ (x:Tys (c.A ((XQ b).getD 0))) (env':Env) (a':Act),Sat c.n env' a'→Off (Abt b) a a'→AcH env' (c.A ((XQ b).getD 0))=true→
          (Tys.sets (c.A ((XQ b).getD 0)) x).map (·.2)=WZ env' (c.A ((XQ b).getD 0))→Sat c.n (Tys.sets (c.A ((XQ b).getD 0)) x++env.drop (Abt b)) a':=by
        intro x env' a' hs' ho' hin' hx'
        refine⟨hs'.size,hs'.defs,fun t v hv => ?_⟩
        rcases AoJ hv with hv | hv
        · exact hs'.get t v (An9 _ x env' t v hin' hx' hv)
        · obtain⟨hnot,hg⟩:=ArF hv
          rw[ho'.same t hnot];exact hs.get t v hg
      refine wp_loop_ghost (fun n a' w'=>∃ x,Sat c.n (Tys.sets (c.A ((XQ b).getD 0)) x++env.drop (Abt b)) a'∧Off (Abt b) a a'∧I n x w') n0
        ⟨x0,hsat x0 env a hs (.refl _ _) hin hx0,.refl _ _,hI0⟩ ?_
      rintro n a' w' ⟨x,hsx,hox,hIx⟩
      refine wp_mono (KF hG hm b _ _ a' w' hsx (hround n x w' hIx)) fun e a'' w'' hq => ?_
      cases e with
      | normal=>
        obtain⟨env',hs',ho',h'⟩:=hq
        simp only at h'
        split at h'
        · rename_i hin'
          obtain⟨n',x',hlt,hx',hI'⟩:=h'
          exact⟨n',hlt,x',hsat x' env' a'' hs' (hox.trans ho') hin' hx',hox.trans ho',hI'⟩
        · exact h'.elim
      | ret=>exact Anp.mono (K':=K) hox (fun t ht=>by simpa [Abt] using ht) hq fun _ h=>h
      | exit i=>exact Anp.mono (K':=K) hox (fun t ht=>by simpa [Abt] using ht) hq fun _ h=>h
      | goto l=>exact hq.elim
      | panic ch=>exact hq.elim
      | outgrown=>exact hq.elim
    · exact h.elim
  | .region id ops draw,env,K,a,w,hs,h=>by
    unfold Aki at h
    cases draw with
    | false=>
      refine wp_region_list (Agh (a0:=a) hG (K:=fun env' w'=>K .normal env' w') (fun env' a' w' hs' ho' h'=>⟨env',hs',ho',h'⟩) ops.toList 0 env a w (fun o h=>h) hs (.refl _ _) h)
    | true=>
      exact AnD (a0:=a) hG hm (fun _ _ _ h=>h) (K:=fun env' w'=>K .normal env' w') (fun env' a' w' hs' ho' h'=>⟨env',hs',ho',h'⟩) hs (.refl _ _) h
def AqN(a:Act):ResultVar→Sem Value
  | .tmp t=>pure (a.tmps.getD t undef)
  | .cell ad t=>do loadVar t (← asAddr (a.tmps.getD ad undef))
theorem Agj{c:Cx}{env:Env}{a:Act}{w:World}{R:Value→World→Prop}(hs:Sat c.n env a):∀ (l:List ResultVar) (vs:Array Value),Am4 c l vs env R w→
    ∃ us:Array Value,(l.mapM (AqN a)).run c.P w = .ok us.toList w∧R (Ar4 (vs++us)) w
  | [],vs,h=>⟨#[],by simp,by simpa [Am4] using h⟩
  | .tmp t :: r,vs,h=>by
    unfold Am4 at h
    split at h
    · rename_i v hv
      obtain⟨us,h1,h2⟩:=Agj hs r (vs.push v) h
      have e:vs++(#[v] ++ us)=vs.push v++us:=by simp
      refine⟨#[v] ++ us,?_,by rw[e];exact h2⟩
      have h3:=hs.get t v hv
      have hr:(AqN a (.tmp t)).run c.P w = .ok v w:=by simp[AqN,Array.getD_eq_getD_getElem?,h3]
      simp only[List.mapM_cons]
      simp[hr,h1]
    · exact h.elim
  | .cell ad t :: r,vs,h=>by
    unfold Am4 at h
    split at h
    · rename_i p hp
      obtain⟨x,hx,h⟩:=h
      obtain⟨us,h1,h2⟩:=Agj hs r (vs.push _) h
      have e:vs++(#[(c.H t).val x] ++ us)=vs.push ((c.H t).val x)++us:=by simp
      refine⟨#[(c.H t).val x] ++ us,?_,by rw[e];exact h2⟩
      have h3:=hs.get ad _ hp
      have hr:(AqN a (.cell ad t)).run c.P w = .ok ((c.H t).val x) w:=by simp[AqN,Array.getD_eq_getD_getElem?,h3,asAddr,hx]
      simp only[List.mapM_cons]
      simp[hr,h1]
    · exact h.elim
theorem AoC{args:Array Value}{t:Nat}{v:Value}(h:(AmL args).get t=some v):args[t]? = some v:=by
  unfold AmL at h
  have key:∀ (l:List Value) (k:Nat),Env.get ((l.zipIdx k).map fun p=>(p.2,p.1)) t=some v→k≤t∧l[t - k]? = some v:=by
    intro l
    induction l with
    | nil=>intro k h;simp[Env.get] at h
    | cons x r ih=>
      intro k hk
      simp only[List.zipIdx_cons,List.map_cons,Env.get] at hk
      split at hk
      · rename_i hb
        have:=Nat.eq_of_beq_eq_true hb
        subst this
        simpa using hk
      · rename_i hb
        obtain⟨h1,h2⟩:=ih (k+1) hk
        refine⟨by omega,?_⟩
        rw[show t - k=(t - (k+1))+1 by omega]
        simpa using h2
  have:=(key args.toList 0 h).2
  simpa using this
theorem Aqs{c:Cx}(hG:GOk c)(hm:c.P.follows .mixedOrders=true){f:FuncId}{fn:Func}{args:Array Value}{w:World}{R:Value→World→Prop}
    (hf:c.P.funcs[f]? = some fn) (hn:fn.ntmps=c.n) (hsz:args.size≤c.n) (h:fnE c fn args R w):Calls c.P f args w fun e w'=>∃ v,e = .returned v∧R v w':=by
  unfold fnE at h
  split at h
  · rename_i b hb
    refine calls_of_wp hf hb ?_
    have hs:Sat c.n (AmL args) { tmps:=args++Array.replicate (fn.ntmps - args.size) undef,defers:=[] }:=by
      refine⟨by simp[hn];omega,rfl,fun t v hv => ?_⟩
      have:=AoC hv
      have hlt:t<args.size:=(Array.getElem?_eq_some_iff.1 this).1
      rw[Array.getElem?_append_left hlt];exact this
    have key:∀ a' w' env',Sat c.n env' a'→Am4 c fn.results.toList #[] env' R w'→a'.defers = []∧∃ v,(results fn a'.tmps).run c.P w' = .ok v w'∧(∃ u,Ending.returned v = .returned u∧R u w'):=by
      intro a' w' env' hs' hr
      obtain⟨us,h1,h2⟩:=Agj hs' fn.results.toList #[] hr
      refine⟨hs'.defs,_,?_,_,rfl,h2⟩
      have e:(results fn a'.tmps)=(do let vs ← fn.results.mapM (AqN a');pure (if h:vs.size=1 then vs[0] else .tuple vs)):=by
        unfold results
        congr 1
      rw[e,Array.mapM_eq_mapM_toList]
      simp[h1,Ar4]
    refine wp_mono (KF hG hm b _ _ _ w hs h) fun e a' w' hq => ?_
    cases e with
    | normal=>obtain⟨env',hs',_,hr⟩:=hq;exact key a' w' env' hs' hr
    | ret=>obtain⟨env',hs',_,hr⟩:=hq;exact key a' w' env' hs' hr
    | exit i=>obtain⟨env',hs',_,hr⟩:=hq;exact hr.elim
    | goto l=>exact hq.elim
    | panic ch=>exact hq.elim
    | outgrown=>exact hq.elim
  · exact h.elim
end Go.Proofs.YtjiagmjfnbljjaaGreatDoor
end
section
namespace Go.Proofs.YtjiagmjfnbljjaaGreatDoor
open Go
structure Fr(D:Nat→Prop)(w w':World):Prop where
  os:w'.os=w.os
  tape:w'.tape=w.tape
  output:w'.output=w.output
  size:w.heap.size≤w'.heap.size
  same:∀ b o,¬ D b→w.heap[b]? = some o→w'.heap[b]? = some o
abbrev Ext(w w':World):Prop:=Fr (fun _=>False) w w'
theorem ZC{w:World}{b:Nat}{o:Obj}(h:w.heap[b]? = some o):b<w.heap.size:=(Array.getElem?_eq_some_iff.1 h).1
theorem Fr.refl(D:Nat→Prop)(w:World):Fr D w w:=⟨rfl,rfl,rfl,Nat.le_refl _,fun _ _ _ h=>h⟩
theorem Ext.refl(w:World):Ext w w:=Fr.refl _ w
theorem Fr.trans{D:Nat→Prop}{a b c:World}(h:Fr D a b)(k:Fr D b c):Fr D a c:=
  ⟨k.os.trans h.os,k.tape.trans h.tape,k.output.trans h.output,Nat.le_trans h.size k.size,fun i o hd hi=>k.same i o hd (h.same i o hd hi)⟩
theorem Fr.mono{D D':Nat→Prop}{a b:World}(h:Fr D a b)(hD:∀ i,i<a.heap.size→D i→D' i):Fr D' a b:=
  ⟨h.os,h.tape,h.output,h.size,fun i o hd hi=>h.same i o (fun hdi=>hd (hD i (ZC hi) hdi)) hi⟩
theorem Ext.fr{D:Nat→Prop}{a b:World}(h:Ext a b):Fr D a b:=h.mono fun _ _ h=>h.elim
theorem Fr.step{D D':Nat→Prop}{a b c:World}(h:Fr D a b)(k:Fr D' b c)(hD:∀ i,i<a.heap.size→D' i→D i):Fr D a c:=
  ⟨k.os.trans h.os,k.tape.trans h.tape,k.output.trans h.output,Nat.le_trans h.size k.size,fun i o hd hi=>k.same i o (fun hdi=>hd (hD i (ZC hi) hdi)) (h.same i o hd hi)⟩
theorem Fr.ext_of_new{D:Nat→Prop}{a b:World}(h:Fr D a b)(hD:∀ i,D i→a.heap.size≤i):Ext a b:=
  h.mono fun i hi hd=>absurd (hD i hd) (by omega)
theorem Fr.get{D:Nat→Prop}{a b:World}(h:Fr D a b){i:Nat}{o:Obj}(hi:a.heap[i]? = some o)(hd:¬ D i):b.heap[i]? = some o:=h.same i o hd hi
theorem Ext.get{a b:World}(h:Ext a b){i:Nat}{o:Obj}(hi:a.heap[i]? = some o):b.heap[i]? = some o:=h.same i o (fun h=>h) hi
theorem Aj9{w:World}{a:Addr}{v:Value}(h:w.cell? a=some v):∃ cs t fz,w.heap[a.block]? = some (.cells cs t fz)∧a.spot.isSome=false∧cs[a.off]? = some v:=by
  unfold World.cell? at h
  split at h
  · rename_i cs t fz hb
    split at h
    · cases h
    · rename_i hs
      exact⟨cs,t,fz,hb,by simpa using hs,h⟩
  · cases h
theorem Aax{w:World}{b o:Nat}{cs:Array Value}{t:TypeId}{fz:Nat×Nat}{v:Value}(hb:w.heap[b]? = some (.cells cs t fz))(hv:cs[o]? = some v):w.cell? ⟨b,o,none⟩=some v:=by
  simp[World.cell?,hb,hv]
theorem Fr.cell{D:Nat→Prop}{a b:World}(h:Fr D a b){p:Addr}{v:Value}(hd:¬ D p.block)(hc:a.cell? p=some v):b.cell? p=some v:=by
  obtain⟨cs,t,fz,hb,hs,hv⟩:=Aj9 hc
  have:=h.get hb hd
  simp[World.cell?,this,hs,hv]
theorem Ext.cell{a b:World}(h:Ext a b){p:Addr}{v:Value}(hc:a.cell? p=some v):b.cell? p=some v:=Fr.cell h (fun h=>h) hc
theorem GQ(b o n:Nat):(⟨b,o,none⟩:Addr).add n=⟨b,o+n,none⟩:=by
  unfold Addr.add
  split
  · rename_i h;subst h;rfl
  · rfl
theorem JP(a:Addr):a.add 0=a:=rfl
theorem II(a:Addr)(m n:Nat):(a.add m).add n=a.add (m+n):=by
  unfold Addr.add
  by_cases hm:m=0
  · subst hm;simp
  · by_cases hn:n=0
    · subst hn;simp
    · simp[hm,hn,Nat.add_assoc]
theorem LG.fr{w w':World}{o:Obj}{a:Addr}(h:LG w o a w'):Ext w w':=by
  obtain⟨rfl,rfl⟩:=h
  refine⟨rfl,rfl,rfl,by simp,fun b o' _ hb => ?_⟩
  have:=ZC hb
  show(w.heap.push o)[b]? = _
  rw[Array.getElem?_push,if_neg (by omega)];exact hb
theorem LG.get{w w':World}{o:Obj}{a:Addr}(h:LG w o a w'):w'.heap[a.block]? = some o:=by
  obtain⟨rfl,rfl⟩:=h
  show(w.heap.push o)[w.heap.size]? = _
  simp
theorem LG.addr{w w':World}{o:Obj}{a:Addr}(h:LG w o a w'):a=⟨w.heap.size,0,none⟩:=h.1
theorem LG.size{w w':World}{o:Obj}{a:Addr}(h:LG w o a w'):w'.heap.size=w.heap.size+1:=by
  obtain⟨rfl,rfl⟩:=h
  simp
def HZ(w:World)(b:Nat)(o:Obj)(w':World):Prop:=w' = { w with heap:=w.heap.setIfInBounds b o }
theorem HZ.fr{w w':World}{b:Nat}{o:Obj}(h:HZ w b o w'):Fr (fun i=>i=b) w w':=by
  subst h
  refine⟨rfl,rfl,rfl,by simp,fun i o' hd hi => ?_⟩
  show(w.heap.setIfInBounds b o)[i]? = _
  rw[Array.getElem?_setIfInBounds_ne (Ne.symm hd)];exact hi
theorem HZ.get{w w':World}{b:Nat}{o:Obj}(h:HZ w b o w')(hb:b<w.heap.size):w'.heap[b]? = some o:=by
  subst h
  show(w.heap.setIfInBounds b o)[b]? = _
  simp[hb]
theorem HZ.size{w w':World}{b:Nat}{o:Obj}(h:HZ w b o w'):w'.heap.size=w.heap.size:=by
  subst h;simp
theorem Drw.fr{w w':World}(h:Drw w w'):Ext w w':=by
  subst h;exact⟨rfl,rfl,rfl,Nat.le_refl _,fun _ _ _ h=>h⟩
def JD(w:World)(a:Addr)(l:List Value):Prop:=∀ i v,l[i]? = some v→w.cell? (a.add i)=some v
theorem JD.fr{D:Nat→Prop}{w w':World}{a:Addr}{l:List Value}(h:JD w a l)(e:Fr D w w')(hd:¬ D a.block):JD w' a l:=
  fun i v hi=>e.cell (by unfold Addr.add;split<;>exact hd) (h i v hi)
theorem JD.ext{w w':World}{a:Addr}{l:List Value}(h:JD w a l)(e:Ext w w'):JD w' a l:=h.fr e fun h=>h
theorem JD.mk{w:World}{b o:Nat}{cs:Array Value}{t:TypeId}{fz:Nat×Nat}{l:List Value}(hb:w.heap[b]? = some (.cells cs t fz))(hl:∀ i v,l[i]? = some v→cs[o+i]? = some v):JD w ⟨b,o,none⟩ l:=by
  intro i v hi
  rw[GQ]
  exact Aax hb (hl i v hi)
theorem JD.all{w:World}{b:Nat}{cs:Array Value}{t:TypeId}{fz:Nat×Nat}(hb:w.heap[b]? = some (.cells cs t fz)):JD w ⟨b,0,none⟩ cs.toList:=
  .mk hb fun i v hi=>by simpa using hi
section
variable{P:Program}{w:World}
theorem AaH{a:Addr}{l:List Value}(h:JD w a l):∀ (n i:Nat) (acc:Array Value),i+n=l.length→(loadCellsFrom a i n acc).run P w = .ok (acc++(l.drop i).toArray) w
  | 0,i,acc,hl=>by
    have:l.drop i = []:=List.drop_eq_nil_of_le (by omega)
    simp[loadCellsFrom,this]
  | n+1,i,acc,hl=>by
    have hi:i<l.length:=by omega
    have hc:=h i l[i] (List.getElem?_eq_getElem hi)
    have ih:=AaH h n (i+1) (acc.push l[i]) (by omega)
    have hr:(load (a.add i)).run P w = .ok l[i] w:=by simp[load,Sem.run,hc]
    simp only[loadCellsFrom]
    rw[Sem.run_bind,hr]
    simp only[Result.andThen_ok,ih]
    rw[List.drop_eq_getElem_cons hi]
    simp
theorem ZK{t:TypeId}{d:TypeDesc}{a:Addr}{v:Value}(hu:P.underlying t=some d)(hd:(match d with | .struct _=>true | .array _ _=>true | _=>false)=false)(h:w.cell? a=some v) :
    (Instr.loadAt t (.pointer (some a))).run P w = .ok v w:=by
  cases d<;>simp at hd<;>simp[Instr.loadAt,Instr.sureAddr,loadVar,isAgg,underlying,hu,h]
theorem UF{t:TypeId}{fs:Array Field}{i:TypeInfo}{a:Addr}{l:List Value}(hu:P.underlying t=some (.struct fs))(hi:P.info? t=some i)(hn:i.size=l.length)(h:JD w a l) :
    (loadVar t a).run P w = .ok (.agg l.toArray) w:=by
  have:=AaH (P:=P) h l.length 0 #[] (by omega)
  simp[loadVar,isAgg,underlying,hu,sizeOf,typeInfo,hi,hn,loadCells,this]
theorem DF{t:TypeId}{fs:Array Field}{i:TypeInfo}{a:Addr}{l:List Value}(hu:P.underlying t=some (.struct fs))(hi:P.info? t=some i)(hn:i.size=l.length)(h:JD w a l) :
    (Instr.loadAt t (.pointer (some a))).run P w = .ok (.agg l.toArray) w:=by
  simp[Instr.loadAt,Instr.sureAddr,UF hu hi hn h]
def MH:Value→Bool
  | .agg _=>false
  | .tuple _=>false
  | _=>true
theorem modify_eq_set{heap:Array Obj}{b:Nat}{o:Obj}{f:Obj→Obj}(h:heap[b]? = some o):heap.modify b f=heap.setIfInBounds b (f o):=by
  have hlt:b<heap.size:=(Array.getElem?_eq_some_iff.1 h).1
  have hg:heap[b] = o:=(Array.getElem?_eq_some_iff.1 h).2
  apply Array.ext
  · simp
  · intro i h1 h2
    rw[Array.getElem_modify]
    have h2':i<heap.size:=by simpa using h2
    by_cases e:b=i
    · subst e;simp[hg]
    · rw[if_neg e,Array.getElem_setIfInBounds_ne h2' e]
theorem AkY{b o:Nat}{cs:Array Value}{t:TypeId}{v:Value}(hb:w.heap[b]? = some (.cells cs t (0,0)))(ho:o<cs.size)(hv:MH v=true) :
    (store ⟨b,o,none⟩ v).run P w = .ok () { w with heap:=w.heap.setIfInBounds b (.cells (cs.setIfInBounds o v) t (0,0)) }:=by
  have hc:w.cell? ⟨b,o,none⟩=some cs[o]:=Aax hb (by simp[ho])
  have hf:w.frozen? ⟨b,o,none⟩=false:=by simp[World.frozen?,hb]
  have hset:w.setCell ⟨b,o,none⟩ v = { w with heap:=w.heap.setIfInBounds b (.cells (cs.setIfInBounds o v) t (0,0)) }:=by
    unfold World.setCell
    simp only
    rw[modify_eq_set hb]
    rfl
  rw[← hset]
  cases v<;>simp[MH] at hv<;>simp[store,Sem.run,hc,hf]
def ZI(cs:Array Value)(o:Nat):List Value→Array Value
  | []=>cs
  | v :: r=>ZI (cs.setIfInBounds o v) (o+1) r
theorem NZ(cs:Array Value)(o:Nat)(l:List Value):(ZI cs o l).size=cs.size:=by
  induction l generalizing cs o with
  | nil=>rfl
  | cons v r ih=>simp[ZI,ih]
theorem WT{P:Program}{b o:Nat}{t:TypeId}:∀ (l:List Value) (i:Nat) (cs:Array Value) (w:World),w.heap[b]? = some (.cells cs t (0,0))→o+i+l.length≤cs.size→(∀ v∈l,MH v=true)→
    (storeCells ⟨b,o,none⟩ l i).run P w = .ok () { w with heap:=w.heap.setIfInBounds b (.cells (ZI cs (o+i) l) t (0,0)) }
  | [],i,cs,w,hb,_,_=>by
    have:w.heap.setIfInBounds b (.cells cs t (0,0))=w.heap:=by
      have hlt:=ZC hb
      apply Array.ext
      · simp
      · intro j h1 h2
        by_cases e:b=j
        · subst e
          have:=(Array.getElem?_eq_some_iff.1 hb).2
          simp[this]
        · have h2':j<w.heap.size:=by simpa using h2
          rw[Array.getElem_setIfInBounds_ne h2' e]
    simp[storeCells,ZI,this]
  | v :: r,i,cs,w,hb,hl,hv=>by
    simp only[List.length_cons] at hl
    have h1:=AkY (P:=P) (w:=w) hb (o:=o+i) (by omega) (hv v (by simp))
    have hlt:=ZC hb
    have ih:=WT (P:=P) (b:=b) (o:=o) (t:=t) r (i+1) (cs.setIfInBounds (o+i) v) { w with heap:=w.heap.setIfInBounds b (.cells (cs.setIfInBounds (o+i) v) t (0,0)) } (by simp[hlt]) (by simp;omega) (fun u hu=>hv u (by simp[hu]))
    simp only[storeCells,GQ]
    rw[Sem.run_bind,h1]
    simp only[Result.andThen_ok]
    rw[ih]
    simp[ZI,Nat.add_assoc]
theorem XG{t:TypeId}{i:TypeInfo}{b o:Nat}{cs:Array Value}{e:TypeId}{v:Value}(hi:P.info? t=some i)(hn:i.size=v.cells.size)(hb:w.heap[b]? = some (.cells cs e (0,0)))(ho:o+v.cells.size≤cs.size)(hv:∀ u∈v.cells.toList,MH u=true) :
    (Instr.storeAt t (.pointer (some ⟨b,o,none⟩)) v).run P w = .ok () { w with heap:=w.heap.setIfInBounds b (.cells (ZI cs o v.cells.toList) e (0,0)) }:=by
  have:=WT (P:=P) (b:=b) (o:=o) (t:=e) v.cells.toList 0 cs w hb (by simpa using ho) hv
  simp[Instr.storeAt,Instr.sureAddr,storeVar,sizeOf,typeInfo,hi,hn,this]
end
theorem JE{b:Bool}{X Y:Prop}(ht:b=true→X)(hf:b=false→Y):br b X Y:=by
  cases b
  · exact hf rfl
  · exact ht rfl
theorem VF{b:Bool}{X Y:Prop}(hb:b=true)(h:X):br b X Y:=by subst hb;exact h
theorem ZH{b:Bool}{X Y:Prop}(hb:b=false)(h:Y):br b X Y:=by subst hb;exact h
theorem JM{p:Option Addr}{K:Addr→Prop}{a:Addr}(hp:p=some a)(h:K a):nn p K:=by subst hp;exact h
theorem YE{α:Type}{vals:α→List Value}{init:List Value}{body:α→(List Value→World→Prop)→World→Prop}{w:World}(I:Nat→α→World→Prop)(n:Nat)(x:α)(hx:vals x=init)(h0:I n x w)
    (h:∀ n x w',I n x w'→∀ again:List Value→World→Prop,(∀ n' x' w'',n'<n→I n' x' w''→again (vals x') w'')→body x again w'):Lp vals init body w:=
  ⟨I,⟨n,x,hx,h0⟩,fun n x w' hI=>h n x w' hI _ fun n' x' _ hlt hI'=>⟨n',x',hlt,rfl,hI'⟩⟩
end Go.Proofs.YtjiagmjfnbljjaaGreatDoor
end
