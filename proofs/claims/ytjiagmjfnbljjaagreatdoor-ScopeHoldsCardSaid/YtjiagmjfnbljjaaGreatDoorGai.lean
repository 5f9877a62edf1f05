/- Lemmas for the statement proved in the last of these texts: part 9 of 25. Conditions: none. -/
import Derived.Test.YtjiagmjfnbljjaaGreatDoorGag
section
namespace Go.Proofs.YtjiagmjfnbljjaaGreatDoor
open Go
set_option maxHeartbeats 4000000
set_option linter.unusedVariables false
set_option linter.unusedSimpArgs false
def rem(T:List Tk)(s:PS):Nat:=if s.bad then 0 else T.length+1 - s.i
def Alz(T:List Tk)(i:Nat):Nat:=((T.take i).map fun t=>400+t.Text.size).sum
abbrev phi(T:List Tk)(s:PS):Nat:=Alz T s.i
section
variable{T:List Tk}{s s0:PS}{k:Int}{t:ByteArray}
def P1(T:List Tk)(c:Nat)(s:PS)(o:Option (Nd×PS)):Prop:=∃ n s',o=some (n,s')∧s'.i≤T.length∧rem T s'≤rem T s∧n.wt+phi T s≤c+phi T s'
def PL(T:List Tk)(c:Nat)(s:PS)(o:Option (List Nd×PS)):Prop:=∃ n s',o=some (n,s')∧s'.i≤T.length∧rem T s'≤rem T s∧Nd.wts n+phi T s≤c+phi T s'
theorem BR{c:Nat}{n:Nd}{s':PS}(h1:s'.i≤T.length)(h2:rem T s'≤rem T s)(h3:n.wt+phi T s≤c+phi T s'):P1 T c s (some (n,s')):=⟨n,s',rfl,h1,h2,h3⟩
theorem LN{c:Nat}{n:List Nd}{s':PS}(h1:s'.i≤T.length)(h2:rem T s'≤rem T s)(h3:Nd.wts n+phi T s≤c+phi T s'):PL T c s (some (n,s')):=⟨n,s',rfl,h1,h2,h3⟩
theorem XZ{β:Type}{c:Nat}{o:Option (Nd×PS)}{g:Nd×PS→Option β}{Q:Option β→Prop}(h:P1 T c s o)(k:∀ n s',s'.i≤T.length→rem T s'≤rem T s→n.wt+phi T s≤c+phi T s'→Q (g (n,s'))):Q (o.bind g):=by
  obtain⟨n,s',rfl,h1,h2,h3⟩:=h
  exact k n s' h1 h2 h3
theorem AdX{β:Type}{c:Nat}{o:Option (List Nd×PS)}{g:List Nd×PS→Option β}{Q:Option β→Prop}(h:PL T c s o)(k:∀ n s',s'.i≤T.length→rem T s'≤rem T s→Nd.wts n+phi T s≤c+phi T s'→Q (g (n,s'))):Q (o.bind g):=by
  obtain⟨n,s',rfl,h1,h2,h3⟩:=h
  exact k n s' h1 h2 h3
theorem RY{c c0:Nat}{o:Option (Nd×PS)}(h:P1 T c s o)(h1:rem T s≤rem T s0)(h2:c+phi T s0≤c0+phi T s):P1 T c0 s0 o:=by
  obtain⟨n,s',rfl,h3,h4,h5⟩:=h
  exact⟨n,s',rfl,h3,Nat.le_trans h4 h1,by omega⟩
theorem KP{c c0:Nat}{o:Option (List Nd×PS)}(h:PL T c s o)(h1:rem T s≤rem T s0)(h2:c+phi T s0≤c0+phi T s):PL T c0 s0 o:=by
  obtain⟨n,s',rfl,h3,h4,h5⟩:=h
  exact⟨n,s',rfl,h3,Nat.le_trans h4 h1,by omega⟩
theorem AtB(i j:Nat)(h:i≤j):Alz T i≤Alz T j:=by
  unfold Alz
  rw[show j=i+(j - i) by omega,List.take_add,List.map_append,List.sum_append]
  omega
theorem AqJ{i:Nat}{x:Tk}(h:T[i]? = some x):Alz T (i+1)=Alz T i+(400+x.Text.size):=by
  unfold Alz
  rw[List.take_add_one,h]
  simp[List.map_append,List.sum_append]
theorem Ae8(h:(ZN T s).Kind≠9):s.inc.i≤T.length∧rem T s.inc≤rem T s∧(s.bad=false→rem T s.inc+1≤rem T s)∧phi T s.inc=phi T s+(400+(ZN T s).Text.size):=by
  have hl:=SU h
  have hg:T[s.i]? = some T[s.i]:=List.getElem?_eq_getElem hl
  have hn:ZN T s=T[s.i]:=by unfold ZN;rw[hg]
  have hb:s.inc.bad=s.bad:=rfl
  refine⟨hl,?_,fun h => ?_,?_⟩
  · unfold rem;rw[hb];split
    · exact Nat.le_refl _
    · show T.length+1 - (s.i+1)≤_;omega
  · unfold rem;rw[hb,h]
    show T.length+1 - (s.i+1)+1≤T.length+1 - s.i;omega
  · rw[hn];exact AqJ hg
theorem isF(hk:k≠9)(h:isP T k t s=true):s.inc.i≤T.length∧rem T s.inc+1≤rem T s∧phi T s.inc=phi T s+(400+(ZN T s).Text.size):=by
  unfold isP at h
  simp only[Bool.and_eq_true,beq_iff_eq,Bool.not_eq_true'] at h
  obtain⟨h1,h2,h3,h4⟩:=Ae8 (s:=s) (by rw[h.2.1];exact hk)
  exact⟨h1,h3 h.1,h4⟩
theorem UA{β:Type}{x y:Option β}{Q:Option β→Prop}(hk:k≠9)(hs:s.i≤T.length)(h1:JH T k t s=s.inc→s.inc.i≤T.length→rem T s.inc+1≤rem T s→phi T s.inc=phi T s+(400+(ZN T s).Text.size)→Q x)(h2:JH T k t s=s→Q y):Q (if isP T k t s then x else y):=by
  split
  · rename_i h
    obtain⟨h3,h4,h5⟩:=isF hk h
    exact h1 (by unfold JH;rw[if_pos h]) h3 h4 h5
  · rename_i h
    exact h2 (by unfold JH;rw[if_neg h])
theorem Abz{β:Type}{x y:Option β}{Q:Option β→Prop}(hk:k≠9)(hs:s.i≤T.length)(h1:JH T k t s=s.inc→s.inc.i≤T.length→rem T s.inc+1≤rem T s→phi T s.inc=phi T s+(400+(ZN T s).Text.size)→Q y)(h2:JH T k t s=s→Q x):Q (if !isP T k t s then x else y):=by
  cases h:isP T k t s with
  | true=>
    obtain⟨h3,h4,h5⟩:=isF hk h
    exact h1 (by unfold JH;rw[if_pos h]) h3 h4 h5
  | false=>exact h2 (by unfold JH;rw[h];rfl)
theorem IU{β:Type}{b:Bool}{x y:Option β}{Q:Option β→Prop}(h1:b=true→Q x)(h2:b=false→Q y):Q (if b then x else y):=by
  cases b
  · exact h2 rfl
  · exact h1 rfl
theorem PA(h:s.i≤T.length):(DH T s).i≤T.length:=by rw[Aou];exact h
theorem Apw{a b:Int}(h:s.i≤T.length):(DN s a b).i≤T.length:=by rw[Ad1];exact h
theorem Amp(s:PS):rem T (DH T s)=0:=by
  unfold rem DH DN
  cases h:s.bad with
  | true=>simp[h]
  | false=>simp[PS.bad]
theorem IQ(s:PS):rem T (DH T s)≤rem T s:=by rw[Amp];exact Nat.zero_le _
theorem AeL(s:PS)(c a:Int):rem T (DN s c a)≤rem T s:=by
  unfold rem DN
  cases h:s.bad with
  | true=>simp[h]
  | false=>
    simp only[Bool.false_eq_true,if_false]
    split<;>simp
theorem NM(hk:k≠9)(h:s.i≤T.length):(GF T k t s).i≤T.length:=by
  unfold GF
  split
  · rename_i hb;exact(isF hk hb).1
  · exact PA h
theorem AG(hk:k≠9)(s:PS):rem T (GF T k t s)≤rem T s:=by
  unfold GF
  split
  · rename_i hb;have:=(isF hk hb).2.1;omega
  · exact IQ s
theorem TD(s:PS):phi T (DH T s)=phi T s:=by unfold phi;rw[Aou]
theorem Aqn(s:PS)(a b:Int):phi T (DN s a b)=phi T s:=by unfold phi;rw[Ad1]
theorem AkD(hk:k≠9)(s:PS):phi T s≤phi T (GF T k t s):=by
  unfold GF
  split
  · rename_i hb;have:=(isF hk hb).2.2;omega
  · rw[TD];exact Nat.le_refl _
theorem Ajv(hk:k≠9)(h:s.i≤T.length):(ZZ T k s).i≤T.length:=by
  unfold ZZ
  split
  · rename_i hb;exact(Ae8 (s:=s) (by simp only[beq_iff_eq] at hb;rw[hb];exact hk)).1
  · exact PA h
theorem AeU(hk:k≠9)(s:PS):rem T (ZZ T k s)≤rem T s:=by
  unfold ZZ
  split
  · rename_i hb;exact(Ae8 (s:=s) (by simp only[beq_iff_eq] at hb;rw[hb];exact hk)).2.1
  · exact IQ s
theorem Ah8(hk:k≠9)(s:PS):(rem T (ZZ T k s)=0∧phi T s=phi T (ZZ T k s))∨((rem T (ZZ T k s)+1≤rem T s∨rem T (ZZ T k s)=0)∧phi T s+400≤phi T (ZZ T k s)):=by
  unfold ZZ
  split
  · rename_i hb
    obtain⟨h1,h2,h3,h4⟩:=Ae8 (T:=T) (s:=s) (by simp only[beq_iff_eq] at hb;rw[hb];exact hk)
    right
    refine⟨?_,by omega⟩
    cases hbad:s.bad with
    | true=>right;unfold rem;rw[show s.inc.bad=s.bad from rfl,hbad];rfl
    | false=>left;exact h3 hbad
  · left;exact⟨Amp s,(TD s).symm⟩
theorem Amc(h:s.i≤T.length):(AZ T s).i≤T.length∧rem T (AZ T s)≤rem T s∧phi T s+(OT T s).size≤phi T (AZ T s):=by
  unfold AZ OT
  split
  · rename_i hb
    unfold LR CI at hb
    simp only[Bool.and_eq_true,beq_iff_eq] at hb
    obtain⟨h1,h2,h3,h4⟩:=Ae8 (T:=T) (s:=s) (by rw[hb.2.1];decide)
    exact⟨h1,h2,by omega⟩
  · refine⟨PA h,IQ s,?_⟩
    rw[TD]
    exact Nat.le_refl _
theorem Ato(h:s.i≤T.length):(AZ T s).i≤T.length:=(Amc h).1
theorem Amd(s:PS):rem T (AZ T s)≤rem T s:=by
  unfold AZ
  split
  · rename_i hb
    unfold LR CI at hb
    simp only[Bool.and_eq_true,beq_iff_eq] at hb
    exact(Ae8 (T:=T) (s:=s) (by rw[hb.2.1];decide)).2.1
  · exact IQ s
theorem P1.must{c:Nat}{o:Option (Nd×PS)}(hk:k≠9)(h:P1 T c (GF T k t s) o):P1 T c s o:=by
  obtain⟨n,s',rfl,h1,h2,h3⟩:=h
  exact⟨n,s',rfl,h1,Nat.le_trans h2 (AG hk s),by have:=AkD (T:=T) (t:=t) hk s;omega⟩
theorem AeW{x c:Nat}(hk:k≠9)(h:x≤c+phi T s):x≤c+phi T (GF T k t s):=Nat.le_trans h (Nat.add_le_add_left (AkD hk s) c)
theorem AkL{x c:Nat}(hk:k≠9)(h:x≤c+phi T s):x≤c+phi T (ZZ T k s):=by have:=Ah8 (T:=T) hk s;omega
theorem AbF{x c:Nat}(h:x≤c+phi T s):x≤c+phi T (DH T s):=by rw[TD];exact h
theorem An1{x c:Nat}{a b:Int}(h:x≤c+phi T s):x≤c+phi T (DN s a b):=by rw[Aqn];exact h
theorem ApO{x c:Nat}(h:x≤(c+(OT T s).size)+phi T s):x≤c+phi T (AZ T s):=by
  unfold AZ OT at *
  split
  · rename_i hb
    rw[if_pos hb] at h
    unfold LR CI at hb
    simp only[Bool.and_eq_true,beq_iff_eq] at hb
    obtain⟨h1,h2,h3,h4⟩:=Ae8 (T:=T) (s:=s) (by rw[hb.2.1];decide)
    omega
  · rename_i hb
    rw[if_neg hb] at h
    rw[TD]
    exact h
theorem SJ{a b r f:Nat}(h:a≤b)(k:64 * b+r<f):64 * a+r<f:=by omega
theorem XI(k a:Int)(t:ByteArray)(g:Bool)(m:List Int)(ks:List Nd):(Nd.mk k a t g m ks).wt=1+t.size+m.length+Nd.wts ks:=rfl
theorem ZB:Nd.wts [] = 0:=rfl
theorem QD(k:Nd)(r:List Nd):Nd.wts (k :: r)=k.wt+Nd.wts r:=rfl
theorem JT:∀ (a b:List Nd),Nd.wts (a++b)=Nd.wts a+Nd.wts b
  | [],b=>by rw[List.nil_append,ZB,Nat.zero_add]
  | x :: a,b=>by rw[List.cons_append,QD,QD,JT a b,Nat.add_assoc]
theorem QS:((⟨#[]⟩:ByteArray):ByteArray).size=0:=rfl
theorem At9(n:Nd):Nd.wts n.kids+1≤n.wt:=by rw[Nd.wt_eq];omega
def Stp(T:List Tk)(s:PS)(o:Option (Nd×PS)):Prop:=∃ n s',o=some (n,s')∧s'.i≤T.length∧rem T s'≤rem T s∧((rem T s'=0∧n.wt+phi T s≤40+phi T s')∨(rem T s'+1≤rem T s∧n.wt+phi T s≤phi T s'))
end
structure GL(T:List Tk)(L:Lv)(f:Nat):Prop where
  atom:∀ s,s.i≤T.length→64 * rem T s+0<f→P1 T 1 s (L.atom s)
  postL:∀ e s,s.i≤T.length→64 * rem T s+0<f→P1 T e.wt s (L.postL e s)
  rowL:∀ n e s,n≤4→s.i≤T.length→64 * rem T s+0<f→P1 T e.wt s (L.rowL n e s)
  andL:∀ e s,s.i≤T.length→64 * rem T s+0<f→P1 T e.wt s (L.andL e s)
  orL:∀ e s,s.i≤T.length→64 * rem T s+0<f→P1 T e.wt s (L.orL e s)
  more:∀ l s,s.i≤T.length→64 * rem T s+0<f→PL T (Nd.wts l) s (L.more l s)
  targL:∀ l s,s.i≤T.length→64 * rem T s+0<f→PL T (Nd.wts l) s (L.targL l s)
  items:∀ l s,s.i≤T.length→64 * rem T s+0<f→PL T (Nd.wts l) s (L.items l s)
  compL:∀ l s,s.i≤T.length→64 * rem T s+0<f→PL T (Nd.wts l) s (L.compL l s)
  names:∀ l s,s.i≤T.length→64 * rem T s+0<f→PL T (Nd.wts l+1) s (L.names l s)
  assigned:∀ e s,s.i≤T.length→64 * rem T s+0<f→P1 T (e.wt+1) s (L.assigned e s)
  params:∀ l b s,s.i≤T.length→64 * rem T s+0<f→PL T (Nd.wts l) s (L.params l b s)
  caught:∀ l b s,s.i≤T.length→64 * rem T s+0<f→PL T (Nd.wts l) s (L.caught l b s)
  postfix_:∀ s,s.i≤T.length→64 * rem T s+1<f→P1 T 1 s (L.postfix_ s)
  minus:∀ s,s.i≤T.length→64 * rem T s+2<f→P1 T 1 s (L.minus s)
  row:∀ k s,k≤5→s.i≤T.length→64 * rem T s+(3+k)<f→P1 T 1 s (L.row k s)
  compare:∀ s,s.i≤T.length→64 * rem T s+9<f→P1 T 1 s (L.compare s)
  not_:∀ s,s.i≤T.length→64 * rem T s+10<f→P1 T 1 s (L.not_ s)
  and_:∀ s,s.i≤T.length→64 * rem T s+11<f→P1 T 1 s (L.and_ s)
  or_:∀ s,s.i≤T.length→64 * rem T s+12<f→P1 T 1 s (L.or_ s)
  expr:∀ s,s.i≤T.length→64 * rem T s+13<f→P1 T 1 s (L.expr s)
  exprs:∀ s,s.i≤T.length→64 * rem T s+14<f→P1 T 2 s (L.exprs s)
  targets:∀ s,s.i≤T.length→64 * rem T s+14<f→P1 T 2 s (L.targets s)
  item:∀ s,s.i≤T.length→64 * rem T s+14<f→P1 T 3 s (L.item s)
  args:∀ l b s,s.i≤T.length→64 * rem T s+14<f→PL T (Nd.wts l+1) s (L.args l b s)
  comp:∀ l s,s.i≤T.length→64 * rem T s+15<f→PL T (Nd.wts l+3) s (L.comp l s)
  round:∀ a s,s.i≤T.length→64 * rem T s+15<f→P1 T 10 s (L.round a s)
  square:∀ a s,s.i≤T.length→64 * rem T s+16<f→P1 T 10 s (L.square a s)
  curly:∀ a s,s.i≤T.length→64 * rem T s+16<f→P1 T 10 s (L.curly a s)
  simple:∀ s,s.i≤T.length→64 * rem T s+17<f→P1 T 10 s (L.simple s)
  stmt:∀ s,s.i≤T.length→64 * rem T s+18<f→Stp T s (L.stmt s)
  blockL:∀ l s,s.i≤T.length→64 * rem T s+19<f→PL T (Nd.wts l+if rem T s=0 then 0 else 40) s (L.blockL l s)
  block:∀ s,s.i≤T.length→64 * rem T s+20<f→P1 T 100 s (L.block s)
  choice:∀ a s,s.i≤T.length→64 * rem T s+21<f→P1 T 110 s (L.choice a s)
  parseL:∀ l s,s.i≤T.length→64 * rem T s+22<f→PL T (Nd.wts l+if rem T s=0 then 0 else 40) s (L.parseL l s)
section
variable{T:List Tk}{R:Lv}{f:Nat}{num:ByteArray→(Bool×List Int)×Bool}(G:GL T R f)
include G
theorem AqK(s:PS)(hs:s.i≤T.length)(hf:64 * rem T s+1<f+1):P1 T 1 s (WN R s):=by
  unfold WN
  repeat' first
    | (with_reducible refine XZ (G.atom _ ?_ ?_) (fun n s' h1 h2 h3 => ?_))
    | (with_reducible refine RY (G.postL _ _ ?_ ?_) ?_ ?_)
    | (with_reducible assumption)
  all_goals (try simp only[nod,XI,ZB,QD,JT,List.length_nil,QS] at *)
  all_goals first
    | done
    | omega
theorem AtD(e:Nd)(s:PS)(hs:s.i≤T.length)(hf:64 * rem T s+0<f+1):P1 T e.wt s (Agi T R e s):=by
  unfold Agi
  repeat' first
    | (with_reducible refine BR ?_ ?_ ?_)
    | (with_reducible refine UA (by decide) (by assumption) (fun ht hi hr hp => ?_) (fun ht => ?_)<;>(try simp only[ht]))
    | (with_reducible refine IU (fun hb => ?_) (fun hb => ?_))
    | (with_reducible refine RY (G.postL _ _ ?_ ?_) ?_ ?_)
    | (with_reducible refine XZ (G.exprs _ ?_ ?_) (fun n s' h1 h2 h3 => ?_))
    | (with_reducible refine AdX (G.args _ _ _ ?_ ?_) (fun n s' h1 h2 h3 => ?_))
    | (with_reducible assumption)
    | (with_reducible refine NM (by decide) ?_)
    | (with_reducible refine Ato ?_)
    | (with_reducible refine SJ (AG (by decide) _) ?_)
    | (with_reducible refine SJ (Amd _) ?_)
    | (with_reducible refine Nat.le_trans (AG (by decide) _) ?_)
    | (with_reducible refine Nat.le_trans (Amd _) ?_)
    | (with_reducible refine AeW (by decide) ?_)
    | (with_reducible refine ApO ?_)
  all_goals (try simp only[nod,XI,ZB,QD,JT,List.length_nil,QS] at *)
  all_goals first
    | done
    | omega
theorem Atm(s:PS)(hs:s.i≤T.length)(hf:64 * rem T s+2<f+1):P1 T 1 s (Agc T R s):=by
  unfold Agc
  repeat' first
    | (with_reducible refine BR ?_ ?_ ?_)
    | (with_reducible refine UA (by decide) (by assumption) (fun ht hi hr hp => ?_) (fun ht => ?_)<;>(try simp only[ht]))
    | (with_reducible refine RY (G.postfix_ _ ?_ ?_) ?_ ?_)
    | (with_reducible refine XZ (G.minus _ ?_ ?_) (fun n s' h1 h2 h3 => ?_))
    | (with_reducible assumption)
  all_goals (try simp only[nod,XI,ZB,QD,JT,List.length_nil,QS] at *)
  all_goals first
    | done
    | omega
theorem Auo(e:Nd)(s:PS)(hs:s.i≤T.length)(hf:64 * rem T s+0<f+1):P1 T e.wt s (Aj4 T R e s):=by
  unfold Aj4
  repeat' first
    | (with_reducible refine BR ?_ ?_ ?_)
    | (with_reducible refine UA (by decide) (by assumption) (fun ht hi hr hp => ?_) (fun ht => ?_)<;>(try simp only[ht]))
    | (with_reducible refine RY (G.andL _ _ ?_ ?_) ?_ ?_)
    | (with_reducible refine XZ (G.not_ _ ?_ ?_) (fun n s' h1 h2 h3 => ?_))
    | (with_reducible assumption)
  all_goals (try simp only[nod,XI,ZB,QD,JT,List.length_nil,QS] at *)
  all_goals first
    | done
    | omega
theorem AvK(e:Nd)(s:PS)(hs:s.i≤T.length)(hf:64 * rem T s+0<f+1):P1 T e.wt s (AoX T R e s):=by
  unfold AoX
  repeat' first
    | (with_reducible refine BR ?_ ?_ ?_)
    | (with_reducible refine UA (by decide) (by assumption) (fun ht hi hr hp => ?_) (fun ht => ?_)<;>(try simp only[ht]))
    | (with_reducible refine RY (G.orL _ _ ?_ ?_) ?_ ?_)
    | (with_reducible refine XZ (G.and_ _ ?_ ?_) (fun n s' h1 h2 h3 => ?_))
    | (with_reducible assumption)
  all_goals (try simp only[nod,XI,ZB,QD,JT,List.length_nil,QS] at *)
  all_goals first
    | done
    | omega
theorem Au6(s:PS)(hs:s.i≤T.length)(hf:64 * rem T s+10<f+1):P1 T 1 s (AoV T R s):=by
  unfold AoV
  repeat' first
    | (with_reducible refine BR ?_ ?_ ?_)
    | (with_reducible refine UA (by decide) (by assumption) (fun ht hi hr hp => ?_) (fun ht => ?_)<;>(try simp only[ht]))
    | (with_reducible refine RY (G.compare _ ?_ ?_) ?_ ?_)
    | (with_reducible refine XZ (G.not_ _ ?_ ?_) (fun n s' h1 h2 h3 => ?_))
    | (with_reducible assumption)
  all_goals (try simp only[nod,XI,ZB,QD,JT,List.length_nil,QS] at *)
  all_goals first
    | done
    | omega
theorem Aup(s:PS)(hs:s.i≤T.length)(hf:64 * rem T s+11<f+1):P1 T 1 s (AoB R s):=by
  unfold AoB
  repeat' first
    | (with_reducible refine RY (G.andL _ _ ?_ ?_) ?_ ?_)
    | (with_reducible refine XZ (G.not_ _ ?_ ?_) (fun n s' h1 h2 h3 => ?_))
    | (with_reducible assumption)
  all_goals (try simp only[nod,XI,ZB,QD,JT,List.length_nil,QS] at *)
  all_goals first
    | done
    | omega
theorem AvL(s:PS)(hs:s.i≤T.length)(hf:64 * rem T s+12<f+1):P1 T 1 s (orF R s):=by
  unfold orF
  repeat' first
    | (with_reducible refine RY (G.orL _ _ ?_ ?_) ?_ ?_)
    | (with_reducible refine XZ (G.and_ _ ?_ ?_) (fun n s' h1 h2 h3 => ?_))
    | (with_reducible assumption)
  all_goals (try simp only[nod,XI,ZB,QD,JT,List.length_nil,QS] at *)
  all_goals first
    | done
    | omega
theorem AuA(s:PS)(hs:s.i≤T.length)(hf:64 * rem T s+13<f+1):P1 T 1 s (Akj T R s):=by
  unfold Akj
  repeat' first
    | (with_reducible refine BR ?_ ?_ ?_)
    | (with_reducible refine UA (by decide) (by assumption) (fun ht hi hr hp => ?_) (fun ht => ?_)<;>(try simp only[ht]))
    | (with_reducible refine XZ (P1.must (by decide) (G.expr _ ?_ ?_)) (fun n s' h1 h2 h3 => ?_))
    | (with_reducible refine XZ (G.or_ _ ?_ ?_) (fun n s' h1 h2 h3 => ?_))
    | (with_reducible assumption)
    | (with_reducible refine NM (by decide) ?_)
    | (with_reducible refine SJ (AG (by decide) _) ?_)
  all_goals (try simp only[nod,XI,ZB,QD,JT,List.length_nil,QS] at *)
  all_goals first
    | done
    | omega
theorem Ata(s:PS)(hs:s.i≤T.length)(hf:64 * rem T s+14<f+1):P1 T 2 s (Af0 T R s):=by
  unfold Af0
  repeat' first
    | (with_reducible refine BR ?_ ?_ ?_)
    | (with_reducible refine Abz (by decide) (by assumption) (fun ht hi hr hp => ?_) (fun ht => ?_)<;>(try simp only[ht]))
    | (with_reducible refine XZ (G.expr _ ?_ ?_) (fun n s' h1 h2 h3 => ?_))
    | (with_reducible refine AdX (G.more _ _ ?_ ?_) (fun n s' h1 h2 h3 => ?_))
    | (with_reducible assumption)
  all_goals (try simp only[nod,XI,ZB,QD,JT,List.length_nil,QS] at *)
  all_goals first
    | done
    | omega
theorem At1(l:List Nd)(s:PS)(hs:s.i≤T.length)(hf:64 * rem T s+0<f+1):PL T (Nd.wts l) s (AcK T R l s):=by
  unfold AcK
  repeat' first
    | (with_reducible refine LN ?_ ?_ ?_)
    | (with_reducible refine UA (by decide) (by assumption) (fun ht hi hr hp => ?_) (fun ht => ?_)<;>(try simp only[ht]))
    | (with_reducible refine XZ (G.postfix_ _ ?_ ?_) (fun n s' h1 h2 h3 => ?_))
    | (with_reducible refine KP (G.targL _ _ ?_ ?_) ?_ ?_)
    | (with_reducible assumption)
  all_goals (try simp only[nod,XI,ZB,QD,JT,List.length_nil,QS] at *)
  all_goals first
    | done
    | omega
theorem AuG(s:PS)(hs:s.i≤T.length)(hf:64 * rem T s+14<f+1):P1 T 3 s (Aku T R s):=by
  unfold Aku
  repeat' first
    | (with_reducible refine BR ?_ ?_ ?_)
    | (with_reducible refine UA (by decide) (by assumption) (fun ht hi hr hp => ?_) (fun ht => ?_)<;>(try simp only[ht]))
    | (with_reducible refine XZ (P1.must (by decide) (G.expr _ ?_ ?_)) (fun n s' h1 h2 h3 => ?_))
    | (with_reducible refine XZ (G.expr _ ?_ ?_) (fun n s' h1 h2 h3 => ?_))
    | (with_reducible assumption)
    | (with_reducible refine NM (by decide) ?_)
    | (with_reducible refine SJ (AG (by decide) _) ?_)
  all_goals (try simp only[nod,XI,ZB,QD,JT,List.length_nil,QS] at *)
  all_goals first
    | done
    | omega
theorem As3(l:List Nd)(s:PS)(hs:s.i≤T.length)(hf:64 * rem T s+0<f+1):PL T (Nd.wts l) s (AfY T R l s):=by
  unfold AfY
  repeat' first
    | (with_reducible refine LN ?_ ?_ ?_)
    | (with_reducible refine UA (by decide) (by assumption) (fun ht hi hr hp => ?_) (fun ht => ?_)<;>(try simp only[ht]))
    | (with_reducible refine XZ (G.or_ _ ?_ ?_) (fun n s' h1 h2 h3 => ?_))
    | (with_reducible refine KP (G.compL _ _ ?_ ?_) ?_ ?_)
    | (with_reducible assumption)
  all_goals (try simp only[nod,XI,ZB,QD,JT,List.length_nil,QS] at *)
  all_goals first
    | done
    | omega
theorem Auv(l:List Nd)(s:PS)(hs:s.i≤T.length)(hf:64 * rem T s+15<f+1):PL T (Nd.wts l+3) s (Akb T R l s):=by
  unfold Akb
  repeat' first
    | (with_reducible refine XZ (P1.must (by decide) (G.or_ _ ?_ ?_)) (fun n s' h1 h2 h3 => ?_))
    | (with_reducible refine XZ (P1.must (by decide) (G.targets _ ?_ ?_)) (fun n s' h1 h2 h3 => ?_))
    | (with_reducible refine KP (G.compL _ _ ?_ ?_) ?_ ?_)
    | (with_reducible assumption)
    | (with_reducible refine NM (by decide) ?_)
    | (with_reducible refine SJ (AG (by decide) _) ?_)
  all_goals (try simp only[nod,XI,ZB,QD,JT,List.length_nil,QS] at *)
  all_goals first
    | done
    | omega
theorem AtQ(a:Int)(s:PS)(hs:s.i≤T.length)(hf:64 * rem T s+15<f+1):P1 T 10 s (Agk T R a s):=by
  unfold Agk
  repeat' first
    | (with_reducible refine BR ?_ ?_ ?_)
    | (with_reducible refine UA (by decide) (by assumption) (fun ht hi hr hp => ?_) (fun ht => ?_)<;>(try simp only[ht]))
    | (with_reducible refine Abz (by decide) (by assumption) (fun ht hi hr hp => ?_) (fun ht => ?_)<;>(try simp only[ht]))
    | (with_reducible refine XZ (G.expr _ ?_ ?_) (fun n s' h1 h2 h3 => ?_))
    | (with_reducible refine AdX (G.more _ _ ?_ ?_) (fun n s' h1 h2 h3 => ?_))
    | (with_reducible assumption)
    | (with_reducible refine NM (by decide) ?_)
    | (with_reducible refine Nat.le_trans (AG (by decide) _) ?_)
    | (with_reducible refine AeW (by decide) ?_)
  all_goals (try simp only[nod,XI,ZB,QD,JT,List.length_nil,QS] at *)
  all_goals first
    | done
    | omega
theorem Asu(a:Int)(s:PS)(hs:s.i≤T.length)(hf:64 * rem T s+16<f+1):P1 T 10 s (AcJ T R a s):=by
  unfold AcJ
  repeat' first
    | (with_reducible refine BR ?_ ?_ ?_)
    | (with_reducible refine UA (by decide) (by assumption) (fun ht hi hr hp => ?_) (fun ht => ?_)<;>(try simp only[ht]))
    | (with_reducible refine XZ (G.expr _ ?_ ?_) (fun n s' h1 h2 h3 => ?_))
    | (with_reducible refine AdX (G.more _ _ ?_ ?_) (fun n s' h1 h2 h3 => ?_))
    | (with_reducible refine AdX (G.comp _ _ ?_ ?_) (fun n s' h1 h2 h3 => ?_))
    | (with_reducible assumption)
    | (with_reducible refine NM (by decide) ?_)
    | (with_reducible refine Nat.le_trans (AG (by decide) _) ?_)
    | (with_reducible refine AeW (by decide) ?_)
  all_goals (try simp only[nod,XI,ZB,QD,JT,List.length_nil,QS] at *)
  all_goals first
    | done
    | omega
theorem As5(a:Int)(s:PS)(hs:s.i≤T.length)(hf:64 * rem T s+16<f+1):P1 T 10 s (AfZ T R a s):=by
  unfold AfZ
  repeat' first
    | (with_reducible refine BR ?_ ?_ ?_)
    | (with_reducible refine UA (by decide) (by assumption) (fun ht hi hr hp => ?_) (fun ht => ?_)<;>(try simp only[ht]))
    | (with_reducible refine XZ (G.expr _ ?_ ?_) (fun n s' h1 h2 h3 => ?_))
    | (with_reducible refine XZ (G.item _ ?_ ?_) (fun n s' h1 h2 h3 => ?_))
    | (with_reducible refine AdX (G.more _ _ ?_ ?_) (fun n s' h1 h2 h3 => ?_))
    | (with_reducible refine AdX (G.items _ _ ?_ ?_) (fun n s' h1 h2 h3 => ?_))
    | (with_reducible refine AdX (G.comp _ _ ?_ ?_) (fun n s' h1 h2 h3 => ?_))
    | (with_reducible assumption)
    | (with_reducible refine NM (by decide) ?_)
    | (with_reducible refine Nat.le_trans (AG (by decide) _) ?_)
    | (with_reducible refine AeW (by decide) ?_)
  all_goals (try simp only[nod,XI,ZB,QD,JT,List.length_nil,QS] at *)
  all_goals first
    | done
    | omega
theorem AuM(l:List Nd)(s:PS)(hs:s.i≤T.length)(hf:64 * rem T s+0<f+1):PL T (Nd.wts l) s (AkC num T R l s):=by
  unfold AkC
  repeat' first
    | (with_reducible refine LN ?_ ?_ ?_)
    | (with_reducible refine UA (by decide) (by assumption) (fun ht hi hr hp => ?_) (fun ht => ?_)<;>(try simp only[ht]))
    | (with_reducible refine IU (fun hb => ?_) (fun hb => ?_))
    | (with_reducible refine XZ (G.expr _ ?_ ?_) (fun n s' h1 h2 h3 => ?_))
    | (with_reducible refine KP (G.more _ _ ?_ ?_) ?_ ?_)
    | (with_reducible assumption)
  all_goals (try simp only[nod,XI,ZB,QD,JT,List.length_nil,QS] at *)
  all_goals first
    | done
    | omega
theorem Ate(l:List Nd)(s:PS)(hs:s.i≤T.length)(hf:64 * rem T s+0<f+1):PL T (Nd.wts l) s (Af6 num T R l s):=by
  unfold Af6
  repeat' first
    | (with_reducible refine LN ?_ ?_ ?_)
    | (with_reducible refine UA (by decide) (by assumption) (fun ht hi hr hp => ?_) (fun ht => ?_)<;>(try simp only[ht]))
    | (with_reducible refine IU (fun hb => ?_) (fun hb => ?_))
    | (with_reducible refine XZ (G.item _ ?_ ?_) (fun n s' h1 h2 h3 => ?_))
    | (with_reducible refine KP (G.items _ _ ?_ ?_) ?_ ?_)
    | (with_reducible assumption)
  all_goals (try simp only[nod,XI,ZB,QD,JT,List.length_nil,QS] at *)
  all_goals first
    | done
    | omega
theorem Atp(l:List Nd)(s:PS)(hs:s.i≤T.length)(hf:64 * rem T s+0<f+1):PL T (Nd.wts l+1) s (Agd T R l s):=by
  unfold Agd
  have hn:=Amc (T:=T) (s:=s) hs
  obtain⟨hn1,hn2,hn3⟩:=hn
  repeat' first
    | (with_reducible refine LN ?_ ?_ ?_)
    | (with_reducible refine Abz (by decide) (by assumption) (fun ht hi hr hp => ?_) (fun ht => ?_)<;>(try simp only[ht]))
    | (with_reducible refine KP (G.names _ _ ?_ ?_) ?_ ?_)
    | (with_reducible assumption)
    | (with_reducible refine ApO ?_)
  all_goals (try simp only[nod,XI,ZB,QD,JT,List.length_nil,QS] at *)
  all_goals first
    | done
    | omega
theorem Arm(a:Int)(s:PS)(hs:s.i≤T.length)(hf:64 * rem T s+21<f+1):P1 T 110 s (Acm T R a s):=by
  unfold Acm
  repeat' first
    | (with_reducible refine BR ?_ ?_ ?_)
    | (with_reducible refine UA (by decide) (by assumption) (fun ht hi hr hp => ?_) (fun ht => ?_)<;>(try simp only[ht]))
    | (with_reducible refine XZ (G.choice _ _ ?_ ?_) (fun n s' h1 h2 h3 => ?_))
    | (with_reducible refine XZ (G.expr _ ?_ ?_) (fun n s' h1 h2 h3 => ?_))
    | (with_reducible refine XZ (G.block _ ?_ ?_) (fun n s' h1 h2 h3 => ?_))
    | (with_reducible assumption)
  all_goals (try simp only[nod,XI,ZB,QD,JT,List.length_nil,QS] at *)
  all_goals first
    | done
    | omega
end
end Go.Proofs.YtjiagmjfnbljjaaGreatDoor
end
section
namespace Go.Proofs.YtjiagmjfnbljjaaGreatDoor
open Go
set_option maxHeartbeats 4000000
set_option linter.unusedVariables false
set_option linter.unusedSimpArgs false
theorem Are{num:ByteArray→(Bool×List Int)×Bool}{T:List Tk}{s:PS}(h:MT num T s=true):s.bad=false∧(ZN T s).Kind≠9:=by
  unfold MT AeJ at h
  simp only[Bool.and_eq_true,Bool.not_eq_true'] at h
  refine⟨h.1,fun h9 => ?_⟩
  have h2:=h.2
  rw[h9] at h2
  simp at h2
theorem AkF{t:Tk}(h:CI t=true):t.Kind≠9:=by
  unfold CI at h
  simp only[Bool.and_eq_true,beq_iff_eq] at h
  rw[h.1];decide
theorem Am0{T:List Tk}{s:PS}:∀ l:List ByteArray,(BS T s l).toList≠((⟨#[]⟩:ByteArray):ByteArray).toList→s.bad=false∧(ZN T s).Kind≠9∧(BS T s l).toList=(ZN T s).Text.toList
  | [],h=>absurd rfl h
  | t :: l,h=>by
    have hs:BS T s (t :: l)=if isP T 5 t s then t else BS T s l:=rfl
    rw[hs] at h ⊢
    split
    · rename_i hb
      unfold isP at hb
      simp only[Bool.and_eq_true,beq_iff_eq,Bool.not_eq_true'] at hb
      exact⟨hb.1,by rw[hb.2.1];decide,hb.2.2.symm⟩
    · rename_i hb
      rw[if_neg hb] at h
      exact Am0 l h
theorem Ahg{T:List Tk}{s:PS}:∀ l:List ByteArray,(∀ t∈l,t.size≤3)→(BS T s l).size≤3
  | [],_=>by show(⟨#[]⟩:ByteArray).size≤3;decide
  | t :: l,h=>by
    have hs:BS T s (t :: l)=if isP T 5 t s then t else BS T s l:=rfl
    rw[hs]
    split
    · exact h t (by simp)
    · exact Ahg l fun t ht=>h t (by simp[ht])
theorem An8(n:Nat):∀ t∈WP n,t.size≤3:=by
  unfold WP
  split<;>decide
theorem AvF{T:List Tk}{s s' s2:PS}{c:Nat}{n:Nd}(h:s'.i=s2.i∧rem T s'≤rem T s2)(h1:s2.i≤T.length)(h2:rem T s2≤rem T s)(h3:n.wt+phi T s≤c+phi T s2):P1 T c s (some (n,s')):=
  BR (by rw[h.1];exact h1) (Nat.le_trans h.2 h2) (by unfold phi at *;rw[h.1];exact h3)
section
variable{T:List Tk}{R:Lv}{f:Nat}{num:ByteArray→(Bool×List Int)×Bool}(G:GL T R f)
include G
theorem Aut(hnum:∀ t,(num t).1.2.length≤300)(s:PS)(hs:s.i≤T.length)(hf:64 * rem T s+0<f+1):P1 T 1 s (Aj8 num T R s):=by
  unfold Aj8
  refine IU (fun hb => ?_) (fun hb => ?_)
  · skip
    repeat' first
      | (with_reducible refine BR ?_ ?_ ?_)
      | (with_reducible assumption)
      | (with_reducible refine PA ?_)
      | (with_reducible refine Nat.le_trans (IQ _) ?_)
      | (with_reducible refine AbF ?_)
    all_goals (try simp only[nod,XI,ZB,QD,JT,List.length_nil,QS] at *)
    all_goals first
      | done
      | omega
  · simp only[Bool.or_eq_false_iff,Bool.not_eq_false'] at hb
    obtain⟨hbad,hk⟩:=Are hb.1
    obtain⟨hi,_,hr,hp⟩:=Ae8 (T:=T) (s:=s) hk
    replace hr:=hr hbad
    have hn:=hnum (ZN T s).Text
    repeat' first
      | (with_reducible refine BR ?_ ?_ ?_)
      | (with_reducible refine IU (fun hb => ?_) (fun hb => ?_))
      | (with_reducible refine RY (G.round _ _ ?_ ?_) ?_ ?_)
      | (with_reducible refine RY (G.square _ _ ?_ ?_) ?_ ?_)
      | (with_reducible refine RY (G.curly _ _ ?_ ?_) ?_ ?_)
      | (with_reducible assumption)
    all_goals (try simp only[nod,XI,ZB,QD,JT,List.length_nil,QS] at *)
    all_goals first
      | done
      | omega
theorem AvV(k:Nat)(s:PS)(hk:k≤5)(hs:s.i≤T.length)(hf:64 * rem T s+(3+k)<f+1):P1 T 1 s (Asm R k s):=by
  unfold Asm
  split
  · skip
    repeat' first
      | (with_reducible refine RY (G.minus _ ?_ ?_) ?_ ?_)
      | (with_reducible assumption)
    all_goals (try simp only[nod,XI,ZB,QD,JT,List.length_nil,QS] at *)
    all_goals first
      | done
      | omega
  · skip
    repeat' first
      | (with_reducible refine RY (G.rowL _ _ _ ?_ ?_ ?_) ?_ ?_)
      | (with_reducible refine XZ (G.row _ _ ?_ ?_ ?_) (fun n s' h1 h2 h3 => ?_))
      | (with_reducible assumption)
    all_goals (try simp only[nod,XI,ZB,QD,JT,List.length_nil,QS] at *)
    all_goals first
      | done
      | omega
theorem Avm(n:Nat)(e:Nd)(s:PS)(hn:n≤4)(hs:s.i≤T.length)(hf:64 * rem T s+0<f+1):P1 T e.wt s (AkS T R n e s):=by
  unfold AkS
  refine IU (fun hb => ?_) (fun hb => ?_)
  · skip
    repeat' first
      | (with_reducible refine BR ?_ ?_ ?_)
      | (with_reducible assumption)
    all_goals (try simp only[nod,XI,ZB,QD,JT,List.length_nil,QS] at *)
    all_goals first
      | done
      | omega
  · refine IU (fun hb2 => ?_) (fun hb2 => ?_)
    · skip
      repeat' first
        | (with_reducible refine BR ?_ ?_ ?_)
        | (with_reducible assumption)
      all_goals (try simp only[nod,XI,ZB,QD,JT,List.length_nil,QS] at *)
      all_goals first
        | done
        | omega
    · have hb2:(BS T s (WP n)).toList≠((⟨#[]⟩:ByteArray):ByteArray).toList:=by simpa using hb2
      obtain⟨hbad,hk,ht⟩:=Am0 _ hb2
      have ht:=Ahg (T:=T) (s:=s) _ (An8 n)
      obtain⟨hi,_,hr,hp⟩:=Ae8 (T:=T) (s:=s) hk
      replace hr:=hr hbad
      repeat' first
        | (with_reducible refine RY (G.rowL _ _ _ ?_ ?_ ?_) ?_ ?_)
        | (with_reducible refine XZ (G.row _ _ ?_ ?_ ?_) (fun n s' h1 h2 h3 => ?_))
        | (with_reducible assumption)
      all_goals (try simp only[nod,XI,ZB,QD,JT,List.length_nil,QS] at *)
      all_goals first
        | done
        | omega
theorem AlV(e:Nd)(op:ByteArray)(s:PS)(hs:s.i≤T.length)(hf:64 * rem T s+8<f):P1 T (e.wt+op.size+2) s (SH R e op s):=by
  unfold SH
  repeat' first
    | (with_reducible refine BR ?_ ?_ ?_)
    | (with_reducible refine XZ (G.row _ _ ?_ ?_ ?_) (fun n s' h1 h2 h3 => ?_))
    | (with_reducible assumption)
  all_goals (try simp only[nod,XI,ZB,QD,JT,List.length_nil,QS] at *)
  all_goals first
    | done
    | omega
theorem Aqi(s:PS)(hs:s.i≤T.length)(hf:64 * rem T s+9<f+1):P1 T 1 s (WC T R s):=by
  unfold WC
  refine XZ (G.row 5 _ (by decide) hs (by omega)) (fun n s' h1 h2 h3 => ?_)
  dsimp only
  refine IU (fun hb2 => ?_) (fun hb2 => ?_)
  · have hb2:(BS T s' Ag2).toList≠((⟨#[]⟩:ByteArray):ByteArray).toList:=by simpa using hb2
    obtain⟨hbad,hk,ht⟩:=Am0 _ hb2
    have ht:=Ahg (T:=T) (s:=s') Ag2 (by decide)
    obtain⟨hi,_,hr,hp⟩:=Ae8 (T:=T) (s:=s') hk
    replace hr:=hr hbad
    refine RY (AlV G _ _ _ hi (by omega)) (by omega) (by omega)
  · have sz:∀ {a:Nat} {b:ByteArray},b.size=a→b.size=a:=fun h=>h
    have z1:((⟨#[105,110]⟩:ByteArray):ByteArray).size=2:=rfl
    have z2:((⟨#[110,111,116,32,105,110]⟩:ByteArray):ByteArray).size=6:=rfl
    have z3:((⟨#[105,115,32,110,111,116]⟩:ByteArray):ByteArray).size=6:=rfl
    have z4:((⟨#[105,115]⟩:ByteArray):ByteArray).size=2:=rfl
    repeat' first
      | ((with_reducible refine RY (AlV G _ _ _ ?_ ?_) ?_ ?_))
      | (with_reducible refine BR ?_ ?_ ?_)
      | (with_reducible refine UA (by decide) (by assumption) (fun ht hi hr hp => ?_) (fun ht => ?_)<;>(try simp only[ht]))
      | (with_reducible assumption)
      | (with_reducible refine NM (by decide) ?_)
      | (with_reducible refine SJ (AG (by decide) _) ?_)
      | (with_reducible refine Nat.le_trans (AG (by decide) _) ?_)
      | (with_reducible refine AeW (by decide) ?_)
    all_goals (try simp only[nod,XI,ZB,QD,JT,List.length_nil,QS] at *)
    all_goals first
      | done
      | omega
theorem Aq1(s:PS)(hs:s.i≤T.length)(hf:64 * rem T s+14<f+1)(hne:∀ l s q,R.targL l s=some q→l≠[]→q.1≠[]):P1 T 2 s (Aab R s):=by
  unfold Aab
  refine XZ (G.postfix_ _ hs (by omega)) (fun n s' h1 h2 h3 => ?_)
  dsimp only
  obtain⟨l,s2,ho,g1,g2,g3⟩:=G.targL [n] s' h1 (by omega)
  rw[ho]
  have:=hne _ _ _ ho (by simp)
  cases l with
  | nil=>exact absurd rfl this
  | cons m l=>
    dsimp only[Option.bind]
    have hc:∀ (l:List Nd) (s:PS),(OV l s).i=s.i∧rem T (OV l s)≤rem T s:=by
      intro l
      induction l with
      | nil=>exact fun s=>⟨rfl,Nat.le_refl _⟩
      | cons x l ih=>
        intro s
        have hs:OV (x :: l) s=OV l (if BG x then s else DN s 108 x.at_):=rfl
        rw[hs]
        obtain⟨i1,i2⟩:=ih (if BG x then s else DN s 108 x.at_)
        split at i1<;>split at i2
        · simp_all
        · simp_all
        · simp_all
        · have:=AeL (T:=T) s 108 x.at_
          rename_i hx hx2
          rw[if_neg hx]
          rw[Ad1] at i1
          exact⟨i1,by omega⟩
    obtain⟨c1,c2⟩:=hc (m :: l) s2
    simp only[QD,ZB] at g3
    refine BR (by rw[c1];exact g1) (by omega) ?_
    have:phi T (OV (m :: l) s2)=phi T s2:=by unfold phi;rw[c1]
    rw[this]
    split
    · omega
    · simp only[nod,XI,QD,QS,List.length_nil]
      omega
theorem AhQ(l:List Nd)(st:Int)(s:PS)(hs:s.i≤T.length)(hf:64 * rem T s≤f+49):PL T (Nd.wts l) s (NU T R l st s):=by
  unfold NU
  repeat' first
    | (with_reducible refine LN ?_ ?_ ?_)
    | (with_reducible refine Abz (by decide) (by assumption) (fun ht hi hr hp => ?_) (fun ht => ?_)<;>(try simp only[ht]))
    | (with_reducible refine KP (G.args _ _ _ ?_ ?_) ?_ ?_)
    | (with_reducible assumption)
  all_goals (try simp only[nod,XI,ZB,QD,JT,List.length_nil,QS] at *)
  all_goals first
    | done
    | omega
theorem Aur(l:List Nd)(st:Int)(s:PS)(hs:s.i≤T.length)(hf:64 * rem T s+14<f+1):PL T (Nd.wts l+1) s (Aj7 num T R l st s):=by
  unfold Aj7
  refine IU (fun hb => ?_) (fun hb => ?_)
  · skip
    repeat' first
      | (with_reducible refine LN ?_ ?_ ?_)
      | (with_reducible assumption)
    all_goals (try simp only[nod,XI,ZB,QD,JT,List.length_nil,QS] at *)
    all_goals first
      | done
      | omega
  simp only[Bool.or_eq_false_iff] at hb
  obtain⟨hbad,hb⟩:=hb
  refine IU (fun hb2 => ?_) (fun hb2 => ?_)
  · simp only[Bool.and_eq_true,beq_iff_eq] at hb2
    obtain⟨hi,_,hr,hp⟩:=Ae8 (T:=T) (s:=s) (by rw[hb2.1];decide)
    replace hr:=hr hbad
    repeat' first
      | ((with_reducible refine KP (AhQ G _ _ _ ?_ ?_) ?_ ?_))
      | (with_reducible refine LN ?_ ?_ ?_)
      | (with_reducible refine IU (fun hb => ?_) (fun hb => ?_))
      | (with_reducible refine XZ (G.expr _ ?_ ?_) (fun n s' h1 h2 h3 => ?_))
      | (with_reducible assumption)
      | (with_reducible refine PA ?_)
      | (with_reducible refine Nat.le_trans (IQ _) ?_)
      | (with_reducible refine AbF ?_)
    all_goals (try simp only[nod,XI,ZB,QD,JT,List.length_nil,QS] at *)
    all_goals first
      | done
      | omega
  refine IU (fun hb3 => ?_) (fun hb3 => ?_)
  · simp only[Bool.and_eq_true,beq_iff_eq] at hb3
    obtain⟨hi,_,hr,hp⟩:=Ae8 (T:=T) (s:=s) (AkF hb3.1)
    replace hr:=hr hbad
    obtain⟨hi2,hr2,_,hp2⟩:=Ae8 (T:=T) (s:=s.inc) (by show(RZ T s).Kind≠9;rw[hb3.2.1];decide)
    repeat' first
      | ((with_reducible refine KP (AhQ G _ _ _ ?_ ?_) ?_ ?_))
      | (with_reducible refine LN ?_ ?_ ?_)
      | (with_reducible refine IU (fun hb => ?_) (fun hb => ?_))
      | (with_reducible refine XZ (G.expr _ ?_ ?_) (fun n s' h1 h2 h3 => ?_))
      | (with_reducible assumption)
      | (with_reducible refine PA ?_)
      | (with_reducible refine Nat.le_trans (IQ _) ?_)
      | (with_reducible refine AbF ?_)
    all_goals (try simp only[nod,XI,ZB,QD,JT,List.length_nil,QS] at *)
    all_goals first
      | done
      | omega
  · skip
    repeat' first
      | ((with_reducible refine KP (AhQ G _ _ _ ?_ ?_) ?_ ?_))
      | (with_reducible refine LN ?_ ?_ ?_)
      | (with_reducible refine IU (fun hb => ?_) (fun hb => ?_))
      | (with_reducible refine XZ (G.expr _ ?_ ?_) (fun n s' h1 h2 h3 => ?_))
      | (with_reducible assumption)
      | (with_reducible refine PA ?_)
      | (with_reducible refine Nat.le_trans (IQ _) ?_)
      | (with_reducible refine AbF ?_)
    all_goals (try simp only[nod,XI,ZB,QD,JT,List.length_nil,QS] at *)
    all_goals first
      | done
      | omega
theorem An0(l:List Nd)(b:Bool)(s:PS)(hs:s.i≤T.length)(hf:64 * rem T s≤f+49):PL T (Nd.wts l) s (TB T R l b s):=by
  unfold TB
  repeat' first
    | (with_reducible refine LN ?_ ?_ ?_)
    | (with_reducible refine Abz (by decide) (by assumption) (fun ht hi hr hp => ?_) (fun ht => ?_)<;>(try simp only[ht]))
    | (with_reducible refine KP (G.params _ _ _ ?_ ?_) ?_ ?_)
    | (with_reducible assumption)
  all_goals (try simp only[nod,XI,ZB,QD,JT,List.length_nil,QS] at *)
  all_goals first
    | done
    | omega
theorem Ar5(l:List Nd)(b:Bool)(s:PS)(hs:s.i≤T.length)(hf:64 * rem T s+0<f+1):PL T (Nd.wts l) s (Acy T R l b s):=by
  unfold Acy
  refine IU (fun hb => ?_) (fun hbad => ?_)
  · skip
    repeat' first
      | (with_reducible refine LN ?_ ?_ ?_)
      | (with_reducible assumption)
    all_goals (try simp only[nod,XI,ZB,QD,JT,List.length_nil,QS] at *)
    all_goals first
      | done
      | omega
  refine UA (by decide) hs (fun ht hi hr hp => ?_) (fun ht => ?_)<;>(try simp only[ht])
  · obtain⟨hn1,hn2,hn3⟩:=Amc (T:=T) (s:=s.inc) hi
    have hq:∀ s:PS,s.i≤T.length→(JH T 5 (⟨#[44]⟩:ByteArray) s).i≤T.length∧rem T (JH T 5 (⟨#[44]⟩:ByteArray) s)≤rem T s∧phi T s≤phi T (JH T 5 (⟨#[44]⟩:ByteArray) s):=by
      intro s hs
      unfold JH
      split
      · rename_i h
        obtain⟨h1,h2,h3⟩:=isF (T:=T) (k:=5) (by decide) h
        exact⟨h1,by omega,by omega⟩
      · exact⟨hs,Nat.le_refl _,Nat.le_refl _⟩
    obtain⟨q1,q2,q3⟩:=hq _ hn1
    refine LN q1 (by omega) ?_
    simp only[nod,XI,ZB,QD,JT,List.length_nil]
    omega
  · refine IU (fun hb3 => ?_) (fun hb3 => ?_)
    · skip
      repeat' first
        | (with_reducible refine LN ?_ ?_ ?_)
        | (with_reducible assumption)
      all_goals (try simp only[nod,XI,ZB,QD,JT,List.length_nil,QS] at *)
      all_goals first
        | done
        | omega
    · obtain⟨hi,_,hr,hp⟩:=Ae8 (T:=T) (s:=s) (AkF (by simpa using hb3))
      replace hr:=hr hbad
      repeat' first
        | ((with_reducible refine KP (An0 G _ _ _ ?_ ?_) ?_ ?_))
        | (with_reducible refine LN ?_ ?_ ?_)
        | (with_reducible refine UA (by decide) (by assumption) (fun ht hi hr hp => ?_) (fun ht => ?_)<;>(try simp only[ht]))
        | (with_reducible refine IU (fun hb => ?_) (fun hb => ?_))
        | (with_reducible refine XZ (G.expr _ ?_ ?_) (fun n s' h1 h2 h3 => ?_))
        | (with_reducible assumption)
        | (with_reducible refine PA ?_)
        | (with_reducible refine Nat.le_trans (IQ _) ?_)
        | (with_reducible refine AbF ?_)
      all_goals (try simp only[nod,XI,ZB,QD,JT,List.length_nil,QS] at *)
      all_goals first
        | done
        | omega
end
end Go.Proofs.YtjiagmjfnbljjaaGreatDoor
end
section
namespace Go.Proofs.YtjiagmjfnbljjaaGreatDoor
open Go
set_option maxHeartbeats 4000000
set_option linter.unusedVariables false
set_option linter.unusedSimpArgs false
theorem AtO(n:Nd)(a:Int):(Ao3 n a).wt=n.wt:=by cases n;rfl
theorem AvU{T:List Tk}{s:PS}(hs:s.i≤T.length):rem T s=0↔s.bad=true:=by
  unfold rem
  cases s.bad<;>simp<;>omega
theorem Al9{T:List Tk}{s s':PS}{n:Nd}(h1:s'.i≤T.length)(h2:rem T s'+1≤rem T s)(h3:n.wt+phi T s≤phi T s'):Stp T s (some (n,s')):=⟨n,s',rfl,h1,by omega,.inr ⟨h2,h3⟩⟩
theorem AvW{T:List Tk}{s s1:PS}{c:Nat}{o:Option (Nd×PS)}(h:P1 T c s1 o)(h2:rem T s1+1≤rem T s)(h3:c+phi T s≤phi T s1):Stp T s o:=by
  obtain⟨n,s',rfl,g1,g2,g3⟩:=h
  exact Al9 g1 (by omega) (by omega)
theorem ifw{T:List Tk}{s:PS}(b:Bool)(hs:s.i≤T.length):(if b then DH T s else s).i≤T.length∧rem T (if b then DH T s else s)≤rem T s∧phi T (if b then DH T s else s)=phi T s:=by
  cases b
  · exact⟨hs,Nat.le_refl _,rfl⟩
  · exact⟨PA hs,IQ s,TD s⟩
section
variable{T:List Tk}{R:Lv}{f:Nat}{num:ByteArray→(Bool×List Int)×Bool}(G:GL T R f)
include G
theorem AoD(e:Nd)(s:PS)(hs:s.i≤T.length)(hf:64 * rem T s+0<f+1):P1 T (e.wt+1) s (NI T R e s):=by
  unfold NI
  have hk:=At9 e
  refine UA (by decide) hs (fun ht hi hr hp => ?_) (fun ht => ?_)
  · skip
    repeat' first
      | (with_reducible refine BR ?_ ?_ ?_)
      | (with_reducible refine IU (fun hb => ?_) (fun hb => ?_))
      | (with_reducible refine XZ (G.exprs _ ?_ ?_) (fun n s' h1 h2 h3 => ?_))
      | (with_reducible assumption)
      | (with_reducible refine Apw ?_)
      | (with_reducible refine Nat.le_trans (AeL _ _ _) ?_)
      | (with_reducible refine An1 ?_)
    all_goals (try simp only[nod,XI,ZB,QD,JT,List.length_nil,QS] at *)
    all_goals first
      | done
      | omega
  · refine IU (fun hb2 => ?_) (fun hb2 => ?_)
    · skip
      repeat' first
        | (with_reducible refine BR ?_ ?_ ?_)
        | (with_reducible assumption)
      all_goals (try simp only[nod,XI,ZB,QD,JT,List.length_nil,QS] at *)
      all_goals first
        | done
        | omega
    · have hb2:(BS T s OJ).toList≠((⟨#[]⟩:ByteArray):ByteArray).toList:=by simpa using hb2
      obtain⟨hbad,hk,ht⟩:=Am0 _ hb2
      have ht:=Ahg (T:=T) (s:=s) OJ (by decide)
      obtain⟨hi,_,hr,hp⟩:=Ae8 (T:=T) (s:=s) hk
      replace hr:=hr hbad
      have hc:(Aps (BS T s OJ)).size≤3:=by
        unfold Aps
        rw[ByteArray.size_extract];omega
      repeat' first
        | (with_reducible refine BR ?_ ?_ ?_)
        | (with_reducible refine IU (fun hb => ?_) (fun hb => ?_))
        | (with_reducible refine XZ (G.exprs _ ?_ ?_) (fun n s' h1 h2 h3 => ?_))
        | (with_reducible assumption)
        | (with_reducible refine Apw ?_)
        | (with_reducible refine Nat.le_trans (AeL _ _ _) ?_)
        | (with_reducible refine An1 ?_)
      all_goals (try simp only[nod,XI,ZB,QD,JT,List.length_nil,QS] at *)
      all_goals first
        | done
        | omega
theorem Aso(s:PS)(hs:s.i≤T.length)(hf:64 * rem T s+17<f+1):P1 T 10 s (AcF num T R s):=by
  unfold AcF
  refine IU (fun hb => ?_) (fun hb => ?_)
  · have hk:(ZN T s).Kind≠9:=by
      intro h
      unfold KI at hb
      rw[h] at hb
      simp at hb
    obtain⟨hi,hr,_,hp⟩:=Ae8 (T:=T) (s:=s) hk
    repeat' first
      | (with_reducible refine BR ?_ ?_ ?_)
      | (with_reducible assumption)
    all_goals (try simp only[nod,XI,ZB,QD,JT,List.length_nil,QS] at *)
    all_goals first
      | done
      | omega
  · have split_fault:∀ (b:Bool) (s:PS) (x y:Int),((if b then DN s x y else s).i=s.i)∧rem T (if b then DN s x y else s)≤rem T s:=by
      intro b s x y
      cases b
      · exact⟨rfl,Nat.le_refl _⟩
      · exact⟨Ad1 _ _ _,AeL _ _ _⟩
    repeat' first
      | ((with_reducible refine AvF (split_fault _ _ _ _) ?_ ?_ ?_))
      | (with_reducible refine BR ?_ ?_ ?_)
      | (with_reducible refine UA (by decide) (by assumption) (fun ht hi hr hp => ?_) (fun ht => ?_)<;>(try simp only[ht]))
      | (with_reducible refine IU (fun hb => ?_) (fun hb => ?_))
      | (with_reducible refine XZ (G.assigned _ _ ?_ ?_) (fun n s' h1 h2 h3 => ?_))
      | (with_reducible refine XZ (G.postfix_ _ ?_ ?_) (fun n s' h1 h2 h3 => ?_))
      | (with_reducible refine XZ (G.expr _ ?_ ?_) (fun n s' h1 h2 h3 => ?_))
      | (with_reducible refine XZ (G.exprs _ ?_ ?_) (fun n s' h1 h2 h3 => ?_))
      | (with_reducible refine AdX (G.names _ _ ?_ ?_) (fun n s' h1 h2 h3 => ?_))
      | (with_reducible assumption)
    all_goals (try simp only[AtO])
    all_goals (try simp only[nod,XI,ZB,QD,JT,List.length_nil,QS] at *)
    all_goals first
      | done
      | omega
theorem AdY(l:List Nd)(b:Bool)(a:Int)(c:Nd)(t:ByteArray)(s:PS)(hs:s.i≤T.length)(hf:64 * rem T s+20<f):PL T (Nd.wts l+c.wt+t.size+101) s (KM R l b a c t s):=by
  unfold KM
  repeat' first
    | (with_reducible refine XZ (G.block _ ?_ ?_) (fun n s' h1 h2 h3 => ?_))
    | (with_reducible refine KP (G.caught _ _ _ ?_ ?_) ?_ ?_)
    | (with_reducible assumption)
  all_goals (try simp only[nod,XI,ZB,QD,JT,List.length_nil,QS] at *)
  all_goals first
    | done
    | omega
theorem Arl(l:List Nd)(b:Bool)(s:PS)(hs:s.i≤T.length)(hf:64 * rem T s+0<f+1):PL T (Nd.wts l) s (Acl num T R l b s):=by
  unfold Acl
  refine Abz (by decide) hs (fun ht hi hr hp => ?_) (fun ht => ?_)
  · refine IU (fun hb => ?_) (fun hb => ?_)
    · skip
      repeat' first
        | (with_reducible refine LN ?_ ?_ ?_)
        | (with_reducible assumption)
        | (with_reducible refine PA ?_)
        | (with_reducible refine Nat.le_trans (IQ _) ?_)
        | (with_reducible refine AbF ?_)
      all_goals (try simp only[nod,XI,ZB,QD,JT,List.length_nil,QS] at *)
      all_goals first
        | done
        | omega
    · refine IU (fun hb => ?_) (fun hb => ?_)
      · refine XZ (G.expr _ hi (by omega)) (fun n s' h1 h2 h3 => ?_)
        dsimp only
        refine UA (by decide) h1 (fun ht hi hr hp => ?_) (fun ht => ?_)<;>(try simp only[ht])
        · obtain⟨hn1,hn2,hn3⟩:=Amc (T:=T) (s:=s'.inc) hi
          generalize OT T s'.inc=nm at *
          generalize AZ T s'.inc=s9 at *
          repeat' first
            | ((with_reducible refine KP (AdY G _ _ _ _ _ _ ?_ ?_) ?_ ?_))
            | (with_reducible assumption)
          all_goals (try simp only[nod,XI,ZB,QD,JT,List.length_nil,QS] at *)
          all_goals first
            | done
            | omega
        · skip
          repeat' first
            | ((with_reducible refine KP (AdY G _ _ _ _ _ _ ?_ ?_) ?_ ?_))
            | (with_reducible assumption)
          all_goals (try simp only[nod,XI,ZB,QD,JT,List.length_nil,QS] at *)
          all_goals first
            | done
            | omega
      · skip
        repeat' first
          | ((with_reducible refine KP (AdY G _ _ _ _ _ _ ?_ ?_) ?_ ?_))
          | (with_reducible assumption)
        all_goals (try simp only[nod,XI,ZB,QD,JT,List.length_nil,QS] at *)
        all_goals first
          | done
          | omega
  · skip
    repeat' first
      | (with_reducible refine LN ?_ ?_ ?_)
      | (with_reducible assumption)
    all_goals (try simp only[nod,XI,ZB,QD,JT,List.length_nil,QS] at *)
    all_goals first
      | done
      | omega
theorem Arh(l:List Nd)(s:PS)(hs:s.i≤T.length)(hf:64 * rem T s+19<f+1):PL T (Nd.wts l+if rem T s=0 then 0 else 40) s (SG T R l s):=by
  unfold SG
  refine IU (fun hb => ?_) (fun hb => ?_)
  · simp only[Bool.and_eq_true,Bool.not_eq_true'] at hb
    have h0:rem T s≠0:=fun h=>by have:=(AvU hs).1 h;rw[hb.1] at this;cases this
    rw[if_neg h0]
    obtain⟨n,s',ho,h1,h2,h3⟩:=G.stmt s hs (by omega)
    rw[ho]
    dsimp only[Option.bind]
    rcases h3 with⟨h3,h4⟩ | ⟨h3,h4⟩
    · have:=G.blockL (l ++ [n]) s' h1 (by omega)
      rw[if_pos h3] at this
      refine KP this (by omega) ?_
      simp only[JT,QD,ZB]
      omega
    · have:=G.blockL (l ++ [n]) s' h1 (by omega)
      refine KP this (by omega) ?_
      simp only[JT,QD,ZB]
      split<;>omega
  · refine LN hs (Nat.le_refl _) (by omega)
theorem Ar6(l:List Nd)(s:PS)(hs:s.i≤T.length)(hf:64 * rem T s+22<f+1):PL T (Nd.wts l+if rem T s=0 then 0 else 40) s (Acz T R l s):=by
  unfold Acz
  refine IU (fun hb => ?_) (fun hb => ?_)
  · simp only[Bool.and_eq_true,Bool.not_eq_true'] at hb
    have h0:rem T s≠0:=fun h=>by have:=(AvU hs).1 h;rw[hb.1] at this;cases this
    rw[if_neg h0]
    obtain⟨n,s',ho,h1,h2,h3⟩:=G.stmt s hs (by omega)
    rw[ho]
    dsimp only[Option.bind]
    rcases h3 with⟨h3,h4⟩ | ⟨h3,h4⟩
    · have:=G.parseL (l ++ [n]) s' h1 (by omega)
      rw[if_pos h3] at this
      refine KP this (by omega) ?_
      simp only[JT,QD,ZB]
      omega
    · have:=G.parseL (l ++ [n]) s' h1 (by omega)
      refine KP this (by omega) ?_
      simp only[JT,QD,ZB]
      split<;>omega
  · refine LN hs (Nat.le_refl _) (by omega)
theorem As1(s:PS)(hs:s.i≤T.length)(hf:64 * rem T s+20<f+1)(hne:∀ l s q,R.blockL l s=some q→l≠[]→q.1≠[]):∃ n s',AfW T R s=some (n,s')∧s'.i≤T.length∧rem T s'≤rem T s∧n.wt+phi T s≤100+phi T s'∧(rem T s'=0∨rem T s'+1≤rem T s):=by
  unfold AfW
  have e1:(ZZ T 7 (ZZ T 6 (GF T 5 (⟨#[58]⟩:ByteArray) s))).i≤T.length:=Ajv (by decide) (Ajv (by decide) (NM (by decide) hs))
  have e2:rem T (ZZ T 7 (ZZ T 6 (GF T 5 (⟨#[58]⟩:ByteArray) s)))≤rem T s:=Nat.le_trans (AeU (by decide) _) (Nat.le_trans (AeU (by decide) _) (AG (by decide) _))
  have e3:phi T s≤0+phi T (ZZ T 7 (ZZ T 6 (GF T 5 (⟨#[58]⟩:ByteArray) s))):=AkL (by decide) (AkL (by decide) (AeW (by decide) (by omega)))
  generalize ZZ T 7 (ZZ T 6 (GF T 5 (⟨#[58]⟩:ByteArray) s))=s1 at *
  obtain⟨n,s2,ho,h1,h2,h3⟩:=G.stmt s1 e1 (by omega)
  rw[ho]
  dsimp only[Option.bind]
  obtain⟨l,s3,ho2,g1,g2,g3⟩:=G.blockL [n] s2 h1 (by omega)
  rw[ho2]
  have:=hne _ _ _ ho2 (by simp)
  cases l with
  | nil=>exact absurd rfl this
  | cons m l=>
    dsimp only[Option.bind]
    have i1:=Ajv (T:=T) (k:=8) (by decide) g1
    have i2:=AeU (T:=T) (k:=8) (by decide) s3
    have i3:=Ah8 (T:=T) (k:=8) (by decide) s3
    have i4:phi T s3≤0+phi T (ZZ T 8 s3):=AkL (by decide) (by omega)
    refine⟨_,_,rfl,i1,by omega,?_,by omega⟩
    simp only[nod,XI,QS,List.length_nil,QD,ZB] at g3 ⊢
    split at g3<;>omega
theorem Avt(s:PS)(hs:s.i≤T.length)(hf:64 * rem T s+18<f+1):Stp T s (Ak9 T R s):=by
  unfold Ak9
  refine UA (by decide) hs (fun ht hi hr hp => ?_) (fun ht => ?_)<;>(try simp only[ht])
  · skip
    repeat' first
      | ((with_reducible refine AvW (G.choice _ _ ?_ ?_) ?_ ?_))
      | (with_reducible assumption)
    all_goals (try simp only[nod,XI,ZB,QD,JT,List.length_nil,QS] at *)
    all_goals first
      | done
      | omega
  refine UA (by decide) hs (fun ht hi hr hp => ?_) (fun ht => ?_)<;>(try simp only[ht])
  · skip
    repeat' first
      | ((with_reducible refine Al9 ?_ ?_ ?_))
      | (with_reducible refine XZ (G.expr _ ?_ ?_) (fun n s' h1 h2 h3 => ?_))
      | (with_reducible refine XZ (G.block _ ?_ ?_) (fun n s' h1 h2 h3 => ?_))
      | (with_reducible assumption)
    all_goals (try simp only[nod,XI,ZB,QD,JT,List.length_nil,QS] at *)
    all_goals first
      | done
      | omega
  refine UA (by decide) hs (fun ht hi hr hp => ?_) (fun ht => ?_)<;>(try simp only[ht])
  · skip
    repeat' first
      | ((with_reducible refine Al9 ?_ ?_ ?_))
      | (with_reducible refine XZ (P1.must (by decide) (G.exprs _ ?_ ?_)) (fun n s' h1 h2 h3 => ?_))
      | (with_reducible refine XZ (G.targets _ ?_ ?_) (fun n s' h1 h2 h3 => ?_))
      | (with_reducible refine XZ (G.block _ ?_ ?_) (fun n s' h1 h2 h3 => ?_))
      | (with_reducible assumption)
      | (with_reducible refine NM (by decide) ?_)
      | (with_reducible refine SJ (AG (by decide) _) ?_)
    all_goals (try simp only[nod,XI,ZB,QD,JT,List.length_nil,QS] at *)
    all_goals first
      | done
      | omega
  refine UA (by decide) hs (fun ht hi hr hp => ?_) (fun ht => ?_)<;>(try simp only[ht])
  · obtain⟨hn1,hn2,hn3⟩:=Amc (T:=T) (s:=s.inc) hi
    generalize OT T s.inc=nm at *
    generalize AZ T s.inc=s9 at *
    have m1:=NM (T:=T) (k:=5) (t:=(⟨#[40]⟩:ByteArray)) (by decide) hn1
    have m2:=AG (T:=T) (k:=5) (t:=(⟨#[40]⟩:ByteArray)) (by decide) s9
    have m3:=AkD (T:=T) (k:=5) (t:=(⟨#[40]⟩:ByteArray)) (by decide) s9
    generalize GF T 5 (⟨#[40]⟩:ByteArray) s9=s8 at *
    repeat' first
      | ((with_reducible refine Al9 ?_ ?_ ?_))
      | (with_reducible refine XZ (P1.must (by decide) (G.block _ ?_ ?_)) (fun n s' h1 h2 h3 => ?_))
      | (with_reducible refine AdX (G.params _ _ _ ?_ ?_) (fun n s' h1 h2 h3 => ?_))
      | (with_reducible assumption)
      | (with_reducible refine NM (by decide) ?_)
      | (with_reducible refine SJ (AG (by decide) _) ?_)
    all_goals (try simp only[nod,XI,ZB,QD,JT,List.length_nil,QS] at *)
    all_goals first
      | done
      | omega
  refine UA (by decide) hs (fun ht hi hr hp => ?_) (fun ht => ?_)<;>(try simp only[ht])
  · obtain⟨hn1,hn2,hn3⟩:=Amc (T:=T) (s:=s.inc) hi
    generalize OT T s.inc=nm at *
    generalize AZ T s.inc=s9 at *
    repeat' first
      | ((with_reducible refine Al9 ?_ ?_ ?_))
      | (with_reducible refine UA (by decide) (by assumption) (fun ht hi hr hp => ?_) (fun ht => ?_)<;>(try simp only[ht]))
      | (with_reducible refine XZ (P1.must (by decide) (G.block _ ?_ ?_)) (fun n s' h1 h2 h3 => ?_))
      | (with_reducible refine XZ (G.expr _ ?_ ?_) (fun n s' h1 h2 h3 => ?_))
      | (with_reducible refine XZ (G.block _ ?_ ?_) (fun n s' h1 h2 h3 => ?_))
      | (with_reducible assumption)
      | (with_reducible refine NM (by decide) ?_)
      | (with_reducible refine SJ (AG (by decide) _) ?_)
    all_goals (try simp only[nod,XI,ZB,QD,JT,List.length_nil,QS] at *)
    all_goals first
      | done
      | omega
  refine UA (by decide) hs (fun ht hi hr hp => ?_) (fun ht => ?_)<;>(try simp only[ht])
  · refine XZ (G.block _ hi (by omega)) (fun n s' h1 h2 h3 => ?_)
    dsimp only
    obtain⟨w1,w2,w3⟩:=ifw (T:=T) (s:=s') (!isP T 2 (⟨#[101,120,99,101,112,116]⟩:ByteArray) s') h1
    generalize (if (!isP T 2 (⟨#[101,120,99,101,112,116]⟩:ByteArray) s')=true then DH T s' else s')=s8 at *
    repeat' first
      | ((with_reducible refine Al9 ?_ ?_ ?_))
      | (with_reducible refine AdX (G.caught _ _ _ ?_ ?_) (fun n s' h1 h2 h3 => ?_))
      | (with_reducible assumption)
    all_goals (try simp only[nod,XI,ZB,QD,JT,List.length_nil,QS] at *)
    all_goals first
      | done
      | omega
  · obtain⟨n,s',ho,h1,h2,h3⟩:=G.simple s hs (by omega)
    rw[ho]
    dsimp only[Option.bind]
    have i1:=Ajv (T:=T) (k:=6) (by decide) h1
    have i2:=AeU (T:=T) (k:=6) (by decide) s'
    have i3:=Ah8 (T:=T) (k:=6) (by decide) s'
    refine⟨_,_,rfl,i1,by omega,?_⟩
    rcases i3 with⟨i3,i4⟩ | ⟨i3 | i3,i4⟩
    · exact .inl ⟨i3,by omega⟩
    · exact .inr ⟨by omega,by omega⟩
    · exact .inl ⟨i3,by omega⟩
end
theorem Aok{num:ByteArray→(Bool×List Int)×Bool}{T:List Tk}:∀ (f:Nat) (l:List Nd) (s:PS) (q:List Nd×PS),(lv num T f).targL l s=some q→l≠[]→q.1≠[]
  | 0,l,s,q,h,_=>by cases h
  | f+1,l,s,q,h,hl=>by
    have h:AcK T (lv num T f) l s=some q:=h
    unfold AcK at h
    split at h
    · obtain⟨p,_,h⟩:=Option.bind_eq_some_iff.1 h
      exact Aok f _ _ _ h (by simp)
    · cases h;exact hl
theorem AlR{num:ByteArray→(Bool×List Int)×Bool}{T:List Tk}:∀ (f:Nat) (l:List Nd) (s:PS) (q:List Nd×PS),(lv num T f).blockL l s=some q→l≠[]→q.1≠[]
  | 0,l,s,q,h,_=>by cases h
  | f+1,l,s,q,h,hl=>by
    have h:SG T (lv num T f) l s=some q:=h
    unfold SG at h
    split at h
    · obtain⟨p,_,h⟩:=Option.bind_eq_some_iff.1 h
      exact AlR f _ _ _ h (by simp)
    · cases h;exact hl
theorem Aq6{num:ByteArray→(Bool×List Int)×Bool}(T:List Tk)(hnum:∀ t,(num t).1.2.length≤300):∀ f,GL T (lv num T f) f
  | 0=>by constructor<;>intros<;>omega
  | f+1=>by
    have G:=Aq6 T hnum f
    refine⟨Aut G hnum,AtD G,fun n e s=>Avm G n e s,Auo G,AvK G,AuM G,At1 G,Ate G,As3 G,Atp G,AoD G,Ar5 G,Arl G,AqK G,Atm G,fun k s=>AvV G k s,Aqi G,Au6 G,Aup G,AvL G,AuA G,Ata G,fun s h1 h2=>Aq1 G s h1 h2 (Aok f),AuG G,Aur G,Auv G,AtQ G,Asu G,As5 G,Aso G,Avt G,Arh G,fun s h1 h2 => ?_,Arm G,Ar6 G⟩
    obtain⟨n,s',h3,h4,h5,h6,_⟩:=As1 G s h1 h2 (AlR f)
    exact⟨n,s',h3,h4,h5,h6⟩
theorem AkK{num:ByteArray→(Bool×List Int)×Bool}(T:List Tk)(hnum:∀ t,(num t).1.2.length≤300):∃ p,(lv num T (64 * T.length+128)).parseL [] ⟨0,0,0⟩=some p∧p.2.i≤T.length∧Nd.wts p.1≤40+Alz T T.length:=by
  have hr:rem T ⟨0,0,0⟩=T.length+1:=rfl
  obtain⟨n,s',h1,h2,h3,h4⟩:=(Aq6 T hnum (64 * T.length+128)).parseL [] ⟨0,0,0⟩ (Nat.zero_le _) (by omega)
  refine⟨_,h1,h2,?_⟩
  have:=AtB (T:=T) s'.i T.length h2
  rw[if_neg (by omega)] at h4
  simp only[ZB] at h4
  show Nd.wts n≤_
  unfold phi at h4
  omega
end Go.Proofs.YtjiagmjfnbljjaaGreatDoor
end
