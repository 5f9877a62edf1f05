/- Lemmas for the statement proved in the last of these texts: part 5 of 25. Conditions: none. -/
import Derived.Test.YtjiagmjfnbljjaaGreatDoorGab
import Derived.Test.YtjiagmjfnbljjaaGreatDoorGac
import Derived.Laws.Cover4
section
namespace Go.Proofs.YtjiagmjfnbljjaaGreatDoor
open Go
def AeI:List (List UInt8):=[[97,110,100],[97,115],[98,114,101,97,107],[99,108,97,115,115],[99,111,110,116,105,110,117,101],[100,101,102],[100,101,108],[101,108,105,102],[101,108,115,101],[101,120,99,101,112,116],[70,97,108,115,101],[102,111,114],[103,108,111,98,97,108],[105,102],[105,110],[105,115],[78,111,110,101],[110,111,110,108,111,99,97,108],[110,111,116],[111,114],[112,97,115,115],[114,97,105,115,101],[114,101,116,117,114,110],[84,114,117,101],[116,114,121],[119,104,105,108,101]]
def AiW(t:ByteArray):Bool:=AeI.any (· == t.toList)
def HL(c:Int):Bool:=(decide (c≥97) && decide (c≤122)) || (decide (c≥65) && decide (c≤90)) || c==95
def IJ(c:Int):Bool:=decide (c≥48) && decide (c≤57)
def EM:Bool→List UInt8→Bool
  | _,[]=>true
  | first,c :: r=>(HL c.toNat || (!first && IJ c.toNat)) && EM false r
def OS(t:ByteArray):Bool:=EM true t.toList && !(t.toList == []) && !AiW t
def AkJ:List (List UInt8):=[[43],[45],[42],[47,47],[37],[38],[124],[94]]
def AqH(t:ByteArray):Bool:=AkJ.any (· == t.toList)
def Akc:List (List UInt8):=[[61,61],[33,61],[60],[60,61],[62],[62,61],[105,110],[110,111,116,32,105,110],[105,115],[105,115,32,110,111,116]]
def Anv(t:ByteArray):Bool:=Akc.any (· == t.toList)
def AhW:List (List UInt8):=[[78,111,110,101],[84,114,117,101],[70,97,108,115,101]]
def Auw(t:ByteArray):Bool:=AhW.any (· == t.toList)
def MA(s:ByteArray):Nat→Nat→List Int
  | 0,_=>[]
  | k+1,pos=>if pos<s.size then((Utf8.decode s pos).1:Int) :: MA s k (pos+(Utf8.decode s pos).2) else []
def EV(s:ByteArray):List Int:=MA s s.size 0
def MD(s:ByteArray):Bool:=(runesBytes (EV s)).toList==s.toList
def Age(g:Bool)(m:List Int):Bool:=!g && m.isEmpty
def AoW(g:Bool)(m:List Int):Bool:=!g && decide (m.length≤256) && !(m.getLast? == some 0)
def Af4(k:Int):Bool:=decide (k≥31) && !(k==39 || k==40 || k==52)
def SP(k:Int):Bool:=k==31 || k==53 || k==54
def Af5(k:Int):Bool:=decide (k≥3) && decide (k≤21) && !(k==19)
abbrev Kd:=Nd×Bool
def kEx(x:Kd):Bool:=Af4 x.1.kind && x.2
def kTg(x:Kd):Bool:=SP x.1.kind && x.2
def kIs(k:Int)(x:Kd):Bool:=x.1.kind==k && x.2
def kTs(x:Kd):Bool:=kTg x || kIs 23 x
def kBl(x:Kd):Bool:=x.1.kind==2 && !x.1.kids.isEmpty && x.2
def kSt(x:Kd):Bool:=Af5 x.1.kind && x.2
def AkH(n:Nd):Bool:=n.kind==0 && n.text.toList == [] && Age n.neg n.mag && n.kids.isEmpty
def Ag8(x:Kd):Bool:=AkH x.1
def NE(x:Kd):Bool:=Ag8 x || kEx x
def Akv(x:Kd):Bool:=Ag8 x || kBl x
def Ads(p:Kd→Bool):List Kd→Bool
  | [a]=>p a
  | _=>false
def Adt(p q:Kd→Bool):List Kd→Bool
  | [a,b]=>p a && q b
  | _=>false
def AkR(p q r:Kd→Bool):List Kd→Bool
  | [a,b,c]=>p a && q b && r c
  | _=>false
def OU:Bool→List Kd→Bool
  | _,[]=>true
  | given,x :: r=>x.1.kind==19 && x.2 && match x.1.kids with
    | []=>r.isEmpty
    | d :: _=>if d.kind==0 then !given && OU given r else OU true r
def AnB(l:List Kd):Bool:=match l.getLast? with
  | none=>false
  | some b=>OU false l.dropLast && kBl b
def CE:List Kd→Bool
  | []=>true
  | x :: r=>x.1.kind==22 && x.2 && (match x.1.kids with
    | d :: _ => !(d.kind==0) || r.isEmpty
    | []=>true) && CE r
def Aon:List Kd→Bool
  | b :: x :: r=>kBl b && CE (x :: r)
  | _=>false
def Ag1(first:Kd→Bool):List Kd→Bool
  | a :: b :: c :: r=>first a && kTs b && kEx c && r.all kEx
  | _=>false
def BO:List Kd→Bool
  | []=>true
  | x :: r=>if kIs 52 x then BO r else r.isEmpty && kIs 40 x
def EG:List Kd→Bool
  | []=>true
  | x :: r=>if kEx x then EG r else BO (x :: r)
def AlS:List Kd→Bool
  | []=>false
  | f :: r=>kEx f && EG r
def Aug(k:Int)(t:ByteArray)(good:ByteArray→Bool):Bool:=
  if k==6 || k==49 then AqH t else
  if k==18 || k==19 || k==20 || k==31 || k==52 || k==53 then OS t else
  if k==22 then t.toList == [] || OS t else
  if k==33 then good t else
  if k==34 then Auw t else
  if k==48 then Anv t else t.toList == []
def kidsB(k:Int)(t:ByteArray)(l:List Kd):Bool:=
  if k==1 then Ads (kIs 2) l else
  if k==2 then l.all kSt else
  if k==3 then Ads kEx l else
  if k==4 then Adt kTg kEx l else
  if k==5 then Adt (kIs 23) kEx l else
  if k==6 then Adt kTg kEx l else
  if k==7 then Ads kTg l else
  if k==8 || k==9 || k==10 then l.isEmpty else
  if k==11 || k==12 then Ads NE l else
  if k==13 || k==14 then !l.isEmpty && l.all (kIs 31) else
  if k==15 then AkR kEx kBl Akv l else
  if k==16 then Adt kEx kBl l else
  if k==17 then AkR kTs kEx kBl l else
  if k==18 then AnB l else
  if k==19 then l.isEmpty || Ads NE l else
  if k==20 then Adt NE kBl l else
  if k==21 then Aon l else
  if k==22 then Adt NE kBl l && (t.toList == [] || (OS t && !(match l with | d :: _=>d.1.kind==0 | []=>true))) else
  if k==23 then decide (l.length≥2) && l.all kTg else
  if k==31 || k==32 || k==33 || k==34 then l.isEmpty else
  if k==35 || k==36 then l.all kEx else
  if k==37 then !l.isEmpty && l.all kEx else
  if k==38 then l.all (fun x=>kIs 39 x || kIs 40 x) else
  if k==39 || k==45 || k==46 || k==54 then Adt kEx kEx l else
  if k==40 || k==47 || k==50 then Ads kEx l else
  if k==41 || k==42 then Ag1 kEx l else
  if k==43 then Ag1 (kIs 39) l else
  if k==44 then AkR kEx kEx kEx l else
  if k==48 || k==49 then Adt kEx kEx l else
  if k==51 then AlS l else
  if k==52 || k==53 then Ads kEx l else false
def Amh(k:Int)(g:Bool)(m:List Int):Bool:=if k==32 then AoW g m else Age g m
def EW(good:ByteArray→Bool)(n:Nd)(l:List Kd):Bool:=Aug n.kind n.text good && Amh n.kind n.neg n.mag && kidsB n.kind n.text l
mutual
def right(good:ByteArray→Bool):Nd→Bool
  | .mk k a t g m ks=>EW good (.mk k a t g m ks) (Am5 good ks)
def Am5(good:ByteArray→Bool):List Nd→List Kd
  | []=>[]
  | k :: r=>(k,right good k) :: Am5 good r
end
theorem AqP(good:ByteArray→Bool)(l:List Nd):Am5 good l=l.map fun k=>(k,right good k):=by
  induction l with
  | nil=>rfl
  | cons k r ih=>simp[Am5,ih]
theorem Asj(good:ByteArray→Bool)(n:Nd):right good n=EW good n (n.kids.map fun k=>(k,right good k)):=by
  cases n;simp[right,AqP,Nd.kids]
mutual
def Ag5:Nd→Nat
  | .mk _ _ _ _ _ ks=>LJ ks+1
def LJ:List Nd→Nat
  | []=>0
  | k :: r=>max (Ag5 k) (LJ r)
end
def PX(good:ByteArray→Bool)(n:Nd):Bool:=decide (Ag5 n≤300) && n.kind==1 && right good n
end Go.Proofs.YtjiagmjfnbljjaaGreatDoor
end
section
namespace Go.Proofs.YtjiagmjfnbljjaaGreatDoor
open Go
theorem YV{w w':World}{a:Addr}{l:List Value}{v:Value}(h:JD w a l)(e:Ext w w')(k:Nat)(hk:l[k]? = some v):w'.cell? (a.add k)=some v:=e.cell (h k v hk)
theorem Aah{w:World}{a:Addr}{l l':List Value}(h:JD w a l)(k:Nat)(hk:∀ i v,l'[i]? = some v→l[k+i]? = some v):JD w (a.add k) l':=fun i v hi=>by
  rw[II];exact h (k+i) v (hk i v hi)
theorem leaf{α:Type}{w w':World}{K:α→World→Prop}{s v:α}(hK:∀ w',Ext w w'→K s w')(e:Ext w w')(h:v=s):K v w':=h▸hK _ e
theorem RtB{K:Bool→World→Prop}{w:World}(x:Bool)(k:K x w):Rt JS K (.bool x) w:=⟨x,rfl,k⟩
section
variable{w1 w:World}{a:Addr}{x:JA}(hc:JD w1 a x.cells.toList)(e:Ext w1 w)
include hc e
theorem FX{K:Int→World→Prop}(k:K x.Kind w):JK a K w:=JO (YV hc e 0 rfl) k
theorem Atr{K:ByteArray→World→Prop}(k:K x.Text w):QO (a.add 2) K w:=YS (YV hc e 2 rfl) k
theorem Au3{K:Bool→World→Prop}(k:K x.Num_Neg w):OR (a.add 3) K w:=HT (YV hc e 3 rfl) k
theorem Au2{K:Sl→World→Prop}(k:K x.Num_Mag w):WK (a.add 4) K w:=AaZ (YV hc e 4 rfl) k
theorem MX{K:Sl→World→Prop}(k:K x.Kids w):JZ (a.add 5) K w:=UG (YV hc e 5 rfl) k
theorem BJ{K:JA→World→Prop}(k:K x w):JF a K w:=QV (hc.ext e) k
theorem Au4{K:ZP→World→Prop}(k:K ⟨x.Num_Neg,x.Num_Mag⟩ w):Acs (a.add 3) K w:=AfI (Aah (hc.ext e) 3 fun i v hi=>by
  match i,hi with
  | 0,hi=>exact hi
  | 1,hi=>exact hi
  | n+2,hi=>simp[ZP.cells] at hi) k
end
section
variable{w:World}{B:Nat}{K:JA→World→Prop}{l:Sl}
theorem Atf{k:Nd}{r:List Nd}(hs:HS w B (k :: r) l)(h:∀ x,Rep w B k x→K x w) :
    nn l.a fun a=>0≤(0:Int)∧(0:Int)<((l.n:Nat):Int)∧JF a K w:=by
  obtain⟨a,x,ha,hb,hc,hx⟩:=hs.get (i:=0) (by simp)
  have hn:=hs.1
  simp at hn
  exact JM ha ⟨by omega,by omega,QV (by simpa [JP] using hc) (h x hx)⟩
theorem AaA{ks:List Nd}(hs:HS w B ks l){i:Nat}(hi:i<ks.length)(h:∀ x,Rep w B ks[i] x→K x w) :
    nn l.a fun a=>0≤(i:Int)∧(i:Int)<((l.n:Nat):Int)∧JF (a.add ((i:Int).toNat * 6)) K w:=by
  obtain⟨a,x,ha,hb,hc,hx⟩:=hs.get hi
  have hn:=hs.1
  exact JM ha ⟨by omega,by omega,QV (by simpa using hc) (h x hx)⟩
end
section
variable{w:World}{B:Nat}{K:JA→World→Prop}{l:Sl}{ks:List Nd}(hs:HS w B ks l)
include hs
theorem AnK(hi:0<ks.length)(h:∀ x,Rep w B ks[0] x→K x w):nn l.a fun a=>0≤(0:Int)∧(0:Int)<((l.n:Nat):Int)∧JF a K w:=AaA hs hi h
end
theorem AnL{w:World}{B:Nat}{K:Int→World→Prop}{l:Sl}{ks:List Nd}(hs:HS w B ks l){i:Nat}(hi:i<ks.length)(h:K ks[i].kind w):nn l.a fun a=>0≤(i:Int)∧(i:Int)<((l.n:Nat):Int)∧JK (a.add ((i:Int).toNat * 6)) K w:=by
  obtain⟨a,x,ha,hb,hc,hx⟩:=hs.get hi
  have hn:=hs.1
  refine JM ha ⟨by omega,by omega,JO (x:=ks[i].kind) ?_ h⟩
  have:=hc 0 (.int .i64 x.Kind) rfl
  rw[hx.kind] at this
  simpa [JP] using this
theorem AiN{w:World}{B:Nat}{K:Int→World→Prop}{l:Sl}{ks:List Nd}(hs:HS w B ks l)(hi:0<ks.length)(h:∀ k,ks[0]? = some k→K k.kind w):nn l.a fun a=>0≤(0:Int)∧(0:Int)<((l.n:Nat):Int)∧JK a K w:=
  AnL hs hi (h _ (List.getElem?_eq_getElem hi))
def SlT(t e sz by_:Nat):Prop:=PP.underlying t=some (.slice e)∧0<sz∧∃ i z,PP.info? e=some i∧i.size=sz∧i.bytes=by_∧i.zero=some z∧z.cells.size=sz
theorem SlT.mk{t e sz by_:Nat}(h:PP.underlying t=some (.slice e))(h0:0<sz)(hi:(PP.info? e).map (fun i=>(i.size,i.bytes,i.zero.map (·.cells.size)))=some (sz,by_,some sz)):SlT t e sz by_:=by
  cases hp:PP.info? e with
  | none=>rw[hp] at hi;cases hi
  | some i=>
    rw[hp] at hi
    simp only[Option.map_some,Option.some.injEq,Prod.mk.injEq] at hi
    cases hz:i.zero with
    | none=>rw[hz] at hi;simp at hi
    | some z=>rw[hz] at hi;simp at hi;exact⟨h,h0,i,z,hp,hi.1,hi.2.1,hz,hi.2.2⟩
theorem Ag7{t e sz by_:Nat}(hT:SlT t e sz by_){s:Sl}{lo:Int}{K:Sl→World→Prop}{w:World}(h0:0≤lo)(h1:lo≤s.n)(k:K (s.from_ lo.toNat sz) w):rn (Instr.sliceAt t s.v (some (.int .i64 lo)) none none) hSl K w:=by
  obtain⟨h,_,i,z,hi,hs,_⟩:=hT
  subst hs
  exact YZ (h:=hSl) _ (WS h hi s lo h0 h1) k
theorem ApY{t e sz by_:Nat}(hT:SlT t e sz by_){s:Sl}{hi:Int}{K:Sl→World→Prop}{w:World}(h0:0≤hi)(h1:hi≤s.c)(k:K (s.to_ hi.toNat) w):rn (Instr.sliceAt t s.v none (some (.int .i64 hi)) none) hSl K w:=by
  obtain⟨h,_,i,z,hi',hs,_⟩:=hT
  exact YZ (h:=hSl) _ (AcC h hi' s hi h0 h1) k
theorem AmK{t e sz by_ ty:Nat}(hT:SlT t e sz by_){w:World}{B:Nat}{s src:Sl}{xs news:List Value}{K:Sl→World→Prop}(hown:Own w B e sz s xs)(hsrc:OQ w src news)(hn:news.length=src.n * sz)(h1:∀ u∈news,MH u=true)(h63:(s.n+src.n)≤4294967296)(hby:by_≤128)(hB:B≤w.heap.size)
    (k:∀ s' w',s'.n=s.n+src.n→Own w' B e sz s' (xs++news)→Fr (fun b=>s.a=some ⟨b,0,none⟩) w w'→(∀ b,s'.a=some ⟨b,0,none⟩→s.a=some ⟨b,0,none⟩∨w.heap.size≤b)→K s' w') :
    rn (Builtin.append_ #[t,t] ty #[s.v,src.v]) hSl K w:=by
  obtain⟨h,h0,i,z,hi,hs,hb,hz,hzs⟩:=hT
  subst hs
  have hm:(s.n+src.n) * by_≤4294967296 * 128:=Nat.mul_le_mul h63 hby
  obtain⟨s',w',hr,h2,h3,h4,h5⟩:=AtR (P:=PP) (ty:=ty) h hi hz hzs h0 hb hown hsrc hn h1 (by omega) (by omega) hB
  exact YZ (h:=hSl) _ hr (k s' w' h2 h3 h4 h5)
def kd(n:Nd):Kd:=(n,right MD n)
theorem CJ(n:Nd):right MD n=EW MD n (n.kids.map kd):=Asj MD n
section
variable{good:ByteArray→Bool}{n:Nd}{l:List Kd}
theorem AqO(h:n.kind=1):EW good n l=(n.text.toList == [] && Age n.neg n.mag && Ads (kIs 2) l):=by unfold EW;rw[h];rfl
theorem Ao4(h:n.kind=22):EW good n l=((n.text.toList == [] || OS n.text) && Age n.neg n.mag && (Adt NE kBl l && (n.text.toList == [] || (OS n.text && !(match l with | d :: _=>d.1.kind==0 | []=>true))))):=by unfold EW;rw[h];rfl
theorem Ao5(h1:n.kind≠1)(h2:n.kind≠2)(h3:n.kind≠3)(h4:n.kind≠4)(h5:n.kind≠5)(h6:n.kind≠6)(h7:n.kind≠7)(h8:n.kind≠8)(h9:n.kind≠9)(h10:n.kind≠10)(h11:n.kind≠11)(h12:n.kind≠12)(h13:n.kind≠13)(h14:n.kind≠14)(h15:n.kind≠15)(h16:n.kind≠16)(h17:n.kind≠17)(h18:n.kind≠18)(h19:n.kind≠19)(h20:n.kind≠20)(h21:n.kind≠21)(h22:n.kind≠22)(h23:n.kind≠23)(h31:n.kind≠31)(h32:n.kind≠32)(h33:n.kind≠33)(h34:n.kind≠34)(h35:n.kind≠35)(h36:n.kind≠36)(h37:n.kind≠37)(h38:n.kind≠38)(h39:n.kind≠39)(h40:n.kind≠40)(h41:n.kind≠41)(h42:n.kind≠42)(h43:n.kind≠43)(h44:n.kind≠44)(h45:n.kind≠45)(h46:n.kind≠46)(h47:n.kind≠47)(h48:n.kind≠48)(h49:n.kind≠49)(h50:n.kind≠50)(h51:n.kind≠51)(h52:n.kind≠52)(h53:n.kind≠53)(h54:n.kind≠54):EW good n l=false:=by
  have hk:kidsB n.kind n.text l=false:=by
    unfold kidsB
    simp[h1,h2,h3,h4,h5,h6,h7,h8,h9,h10,h11,h12,h13,h14,h15,h16,h17,h18,h19,h20,h21,h22,h23,h31,h32,h33,h34,h35,h36,h37,h38,h39,h40,h41,h42,h43,h44,h45,h46,h47,h48,h49,h50,h51,h52,h53,h54]
  unfold EW
  rw[hk,Bool.and_false]
end
theorem AvG{α:Type}{s:Sl}{ks:List α}(h:s.n=ks.length):((s.n:Int)==0)=ks.isEmpty:=by
  cases ks with
  | nil=>simp at h;simp[h]
  | cons k r=>simp at h;simp[h];omega
theorem AuH(n:Nd):kEx (kd n)=(Af4 n.kind && EW MD n (n.kids.map kd)):=by rw[← CJ];rfl
theorem AuJ(n:Nd):kTg (kd n)=(SP n.kind && EW MD n (n.kids.map kd)):=by rw[← CJ];rfl
theorem AuI(n:Nd):kSt (kd n)=(Af5 n.kind && EW MD n (n.kids.map kd)):=by rw[← CJ];rfl
end Go.Proofs.YtjiagmjfnbljjaaGreatDoor
end
section
namespace Go.Proofs.YtjiagmjfnbljjaaGreatDoor
open Go
inductive En where
  | box (b:Nat) (o:Obj)
  | row (e sz:Nat) (s:Sl) (cs:List Value)
def En.has:En→Nat→Prop
  | .box b _,i=>i=b
  | .row _ _ s _,i=>s.a=some ⟨i,0,none⟩
def En.ok(B:Nat)(w:World):En→Prop
  | .box b o=>w.heap[b]? = some o∧B≤b
  | .row e sz s cs=>Own w B e sz s cs
theorem En.ok.lt{B:Nat}{w:World}{e:En}(h:e.ok B w){i:Nat}(hi:e.has i):B≤i∧i<w.heap.size:=by
  cases e with
  | box b o=>simp only[En.has] at hi;subst hi;exact⟨h.2,ZC h.1⟩
  | row e sz s cs=>exact Own.old h hi
theorem En.ok.fr{B:Nat}{D:Nat→Prop}{w w':World}{e:En}(h:e.ok B w)(f:Fr D w w')(hd:∀ i,e.has i→¬ D i):e.ok B w':=by
  cases e with
  | box b o=>exact⟨f.get h.1 (hd b rfl),h.2⟩
  | row e sz s cs=>exact Own.fr h f hd
def En.apart(e f:En):Prop:=∀ i,e.has i→¬ f.has i
theorem En.apart.symm{e f:En}(h:e.apart f):f.apart e:=fun i hf he=>h i he hf
abbrev Ky(B:Nat)(I:Nat→Prop)(w w':World):Prop:=Fr (fun i=>B≤i∧¬ I i) w w'
structure Mx(B:Nat)(I:Nat→Prop)(w:World)(l:List En):Prop where
  ok:∀ e∈l,e.ok B w
  fz:∀ e∈l,∀ i,e.has i→¬ I i
  dj:l.Pairwise En.apart
  lt:∀ i,I i→i<w.heap.size
  le:B≤w.heap.size
  ge:∀ i,I i→B≤i
section
variable{B:Nat}{I:Nat→Prop}{w w':World}{l:List En}
theorem Mx.nil(h:B≤w.heap.size):Mx B (fun _=>False) w []:=⟨nofun,nofun,.nil,nofun,h,nofun⟩
theorem Mx.cons_new{e:En}(h:Mx B I w l)(f:Ky B I w w')(hl:∀ e∈l,e.ok B w')(he:e.ok B w')(hn:∀ i,e.has i→w.heap.size≤i):Mx B I w' (e :: l):=by
  refine⟨fun x hx => ?_,fun x hx i hi => ?_,.cons (fun x hx i hi hx2 => ?_) h.dj,fun i hi=>Nat.lt_of_lt_of_le (h.lt i hi) f.size,Nat.le_trans h.le f.size,h.ge⟩
  · rcases List.mem_cons.1 hx with rfl | hx
    · exact he
    · exact hl x hx
  · rcases List.mem_cons.1 hx with rfl | hx
    · intro hI;have:=hn i hi;have:=h.lt i hI;omega
    · exact h.fz x hx i hi
  · have:=hn i hi;have:=((h.ok x hx).lt hx2).2;omega
theorem Mx.ext(h:Mx B I w l)(e:Ext w w'):Mx B I w' l:=
  ⟨fun x hx=>(h.ok x hx).fr e fun _ _ h=>h,h.fz,h.dj,fun i hi=>Nat.lt_of_lt_of_le (h.lt i hi) e.size,Nat.le_trans h.le e.size,h.ge⟩
theorem Mx.new{o:Obj}{a:Addr}(h:Mx B I w l)(n:LG w o a w'):Mx B I w' (.box w.heap.size o :: l):=by
  have ha:=n.addr
  subst ha
  exact h.cons_new (Ext.fr n.fr) (h.ext n.fr).ok ⟨n.get,h.le⟩ fun i hi=>by simp only[En.has] at hi;omega
theorem Mx.perm{l':List En}(h:Mx B I w l)(p:l.Perm l'):Mx B I w l':=
  ⟨fun x hx=>h.ok x (p.mem_iff.2 hx),fun x hx=>h.fz x (p.mem_iff.2 hx),(p.pairwise_iff fun h=>En.apart.symm h).1 h.dj,h.lt,h.le,h.ge⟩
theorem Mx.sub{l':List En}(h:Mx B I w l)(p:l'.Sublist l):Mx B I w l':=
  ⟨fun x hx=>h.ok x (p.subset hx),fun x hx=>h.fz x (p.subset hx),h.dj.sublist p,h.lt,h.le,h.ge⟩
theorem Mx.tail{e:En}(h:Mx B I w (e :: l)):Mx B I w l:=h.sub (List.sublist_cons_self e l)
theorem Mx.turn{e e':En}{D:Nat→Prop}(h:Mx B I w (e :: l))(f:Fr D w w')(hD:∀ i,D i→e.has i)(he:e'.ok B w')(hn:∀ i,e'.has i→e.has i∨w.heap.size≤i):Mx B I w' (e' :: l)∧Ky B I w w':=by
  have hp:=List.pairwise_cons.1 h.dj
  have ho:=h.ok e (by simp)
  have hk:Ky B I w w':=f.mono fun i _ hi=>⟨(ho.lt (hD i hi)).1,h.fz e (by simp) i (hD i hi)⟩
  refine⟨⟨fun x hx => ?_,fun x hx i hi => ?_,.cons (fun x hx i hi hx2 => ?_) hp.2,fun i hi=>Nat.lt_of_lt_of_le (h.lt i hi) f.size,Nat.le_trans h.le f.size,h.ge⟩,hk⟩
  · rcases List.mem_cons.1 hx with rfl | hx
    · exact he
    · exact(h.ok x (by simp[hx])).fr f fun i hi hd=>hp.1 x hx i (hD i hd) hi
  · rcases List.mem_cons.1 hx with rfl | hx
    · rcases hn i hi with hi | hi
      · exact h.fz e (by simp) i hi
      · intro hI;have:=h.lt i hI;omega
    · exact h.fz x (by simp[hx]) i hi
  · rcases hn i hi with hi | hi
    · exact hp.1 x hx i hi hx2
    · have:=((h.ok x (by simp[hx])).lt hx2).2;omega
theorem WV{α:Type}:∀ {l:List α} {k:Nat} {e:α},l[k]? = some e→∀ e',(l.set k e').Perm (e' :: l.eraseIdx k)
  | a :: l,0,e,_,e'=>by simp
  | a :: l,k+1,e,h,e'=>by
    have:=WV (l:=l) (k:=k) (by simpa using h) e'
    simp only[List.set_cons_succ,List.eraseIdx_cons_succ]
    exact(this.cons a).trans (.swap e' a _)
  | [],k,e,h,_=>by simp at h
theorem Ad4{α:Type}{l:List α}{k:Nat}{e:α}(h:l[k]? = some e):l.Perm (e :: l.eraseIdx k):=by
  have hs:=WV h e
  have:l.set k e=l:=by
    have hlt:=(List.getElem?_eq_some_iff.1 h).1
    have he:=(List.getElem?_eq_some_iff.1 h).2
    rw[← he];exact List.set_getElem_self hlt
  rwa [this] at hs
theorem Mx.set{k b:Nat}{o o':Obj}(h:Mx B I w l)(hk:l[k]? = some (.box b o))(s:HZ w b o' w'):Mx B I w' (l.set k (.box b o'))∧Ky B I w w':=by
  have hp:=h.perm (Ad4 hk)
  have ho:=hp.ok (.box b o) (by simp)
  obtain⟨h1,h2⟩:=hp.turn (e':=.box b o') s.fr (fun i hi=>hi) ⟨s.get (ZC ho.1),ho.2⟩ fun i hi=>.inl hi
  exact⟨h1.perm (WV hk _).symm,h2⟩
theorem Mx.freeze{e:En}(h:Mx B I w (e :: l)):Mx B (fun i=>I i∨e.has i) w l:=by
  have hp:=List.pairwise_cons.1 h.dj
  refine⟨h.tail.ok,fun x hx i hi hI => ?_,hp.2,fun i hi => ?_,h.le,fun i hi => ?_⟩
  · rcases hI with hI | hI
    · exact h.tail.fz x hx i hi hI
    · exact hp.1 x hx i hI hi
  · rcases hi with hi | hi
    · exact h.lt i hi
    · exact((h.ok e (by simp)).lt hi).2
  · rcases hi with hi | hi
    · exact h.ge i hi
    · exact((h.ok e (by simp)).lt hi).1
theorem Mx.app{t e sz by_ ty:Nat}(hT:SlT t e sz by_){s src:Sl}{cs news:List Value}{K:Sl→World→Prop}(h:Mx B I w (.row e sz s cs :: l))(hsrc:OQ w src news)(hn:news.length=src.n * sz)(h1:∀ u∈news,MH u=true)(h63:(s.n+src.n)≤4294967296)(hby:by_≤128)
    (k:∀ s' w',s'.n=s.n+src.n→Mx B I w' (.row e sz s' (cs++news) :: l)→Ky B I w w'→K s' w'):rn (Builtin.append_ #[t,t] ty #[s.v,src.v]) hSl K w:=by
  have ho:Own w B e sz s cs:=h.ok (.row e sz s cs) (by simp)
  refine AmK hT ho hsrc hn h1 h63 hby h.le fun s' w' hs' hown hf hb => ?_
  obtain⟨h2,h3⟩:=h.turn (e':=.row e sz s' (cs++news)) hf (fun i hi=>hi) hown hb
  exact k s' w' hs' h2 h3
end
structure Xt(B:Nat) where
  p:(Nat→Prop)→World→Prop
  keep:∀ {I:Nat→Prop} {w w':World},p I w→Ky B I w w'→p I w'
  mono:∀ {I I':Nat→Prop} {w:World},p I w→(∀ i,I i→I' i)→p I' w
def Mz(B:Nat)(X:Xt B)(w:World)(l:List En):Prop:=∃ I,Mx B I w l∧X.p I w
section
variable{B:Nat}{X:Xt B}{w w':World}{l:List En}
theorem Mz.ext(h:Mz B X w l)(e:Ext w w'):Mz B X w' l:=by
  obtain⟨I,h1,h2⟩:=h
  exact⟨I,h1.ext e,X.keep h2 (Ext.fr e)⟩
theorem Mz.new{o:Obj}{a:Addr}(h:Mz B X w l)(n:LG w o a w'):Mz B X w' (.box w.heap.size o :: l):=by
  obtain⟨I,h1,h2⟩:=h
  exact⟨I,h1.new n,X.keep h2 (Ext.fr n.fr)⟩
theorem Mz.bx{o:Obj}{K:Addr→World→Prop}(h:Mz B X w l)(k:∀ b w',Mz B X w' (.box b o :: l)→K ⟨b,0,none⟩ w'):bx o K w:=by
  intro a w' n
  have hz:=h.new n
  have ha:=n.addr
  subst ha
  exact k _ _ hz
theorem Mz.set{k b:Nat}{o o':Obj}(h:Mz B X w l)(hk:l[k]? = some (.box b o))(s:HZ w b o' w'):Mz B X w' (l.set k (.box b o')):=by
  obtain⟨I,h1,h2⟩:=h
  obtain⟨h3,h4⟩:=h1.set hk s
  exact⟨I,h3,X.keep h2 h4⟩
theorem Mz.perm{l':List En}(h:Mz B X w l)(p:l.Perm l'):Mz B X w l':=by
  obtain⟨I,h1,h2⟩:=h
  exact⟨I,h1.perm p,h2⟩
theorem Mz.sub{l':List En}(h:Mz B X w l)(p:l'.Sublist l):Mz B X w l':=by
  obtain⟨I,h1,h2⟩:=h
  exact⟨I,h1.sub p,h2⟩
theorem Mz.ok(h:Mz B X w l){e:En}(he:e∈l):e.ok B w:=by
  obtain⟨I,h1,h2⟩:=h
  exact h1.ok e he
theorem Mz.heap(h:Mz B X w l){b:Nat}{o:Obj}(he : .box b o∈l):w.heap[b]? = some o:=(h.ok he).1
theorem Mz.app{t e sz by_ ty:Nat}(hT:SlT t e sz by_){s src:Sl}{cs news:List Value}{K:Sl→World→Prop}(h:Mz B X w (.row e sz s cs :: l))(hsrc:OQ w src news)(hn:news.length=src.n * sz)(h1:∀ u∈news,MH u=true)(h63:(s.n+src.n)≤4294967296)(hby:by_≤128)
    (k:∀ s' w',s'.n=s.n+src.n→Mz B X w' (.row e sz s' (cs++news) :: l)→K s' w'):rn (Builtin.append_ #[t,t] ty #[s.v,src.v]) hSl K w:=by
  obtain⟨I,hm,hx⟩:=h
  exact hm.app hT hsrc hn h1 h63 hby fun s' w' hs' h2 h3=>k s' w' hs' ⟨I,h2,X.keep hx h3⟩
theorem En.ok.row{b e sz n:Nat}{cs:Array Value}(h:(En.box b (.cells cs e)).ok B w)(hs:cs.size=n * sz)(hn:n≤4294967296):(En.row e sz ⟨some ⟨b,0,none⟩,n,n⟩ cs.toList).ok B w:=by
  refine⟨by simpa using hs,.inr ⟨b,n,cs,rfl,h.2,h.1,Nat.le_refl _,by unfold maxLen;omega,hs,?_⟩⟩
  rw[List.take_of_length_le]
  simp[hs]
theorem Mz.row{b e sz n:Nat}{cs:Array Value}(h:Mz B X w (.box b (.cells cs e) :: l))(hs:cs.size=n * sz)(hn:n≤4294967296):Mz B X w (.row e sz ⟨some ⟨b,0,none⟩,n,n⟩ cs.toList :: l):=by
  obtain⟨I,h1,h2⟩:=h
  obtain⟨h3,_⟩:=h1.turn (e':=.row e sz ⟨some ⟨b,0,none⟩,n,n⟩ cs.toList) (D:=fun _=>False) (Fr.refl _ w) nofun ((h1.ok _ (by simp)).row hs hn) fun i hi=>by
    simp only[En.has,Option.some.injEq,Addr.mk.injEq,and_true] at hi
    exact .inl hi.symm
  exact⟨I,h3,h2⟩
theorem Mz.nil_row(h:Mz B X w l)(e sz:Nat):Mz B X w (.row e sz ⟨none,0,0⟩ [] :: l):=by
  obtain⟨I,h1,h2⟩:=h
  exact⟨I,h1.cons_new (Fr.refl _ w) h1.ok (Own.nil _ _ _ _) nofun,h2⟩
end
theorem BK:∀ (l:List Value) (cs:Array Value) (o i:Nat),o+l.length≤cs.size→(ZI cs o l)[i]? = if o≤i∧i<o+l.length then l[i - o]? else cs[i]?
  | [],cs,o,i,_=>by simp only[ZI,List.length_nil];rw[if_neg (by omega)]
  | v :: r,cs,o,i,h=>by
    simp only[List.length_cons] at h ⊢
    rw[ZI,BK r _ (o+1) i (by simp;omega)]
    by_cases h1:o+1≤i∧i<o+1+r.length
    · have h2:o≤i∧i<o+(r.length+1):=by omega
      rw[if_pos h1,if_pos h2,show i - o=(i - (o+1))+1 by omega,List.getElem?_cons_succ]
    · rw[if_neg h1]
      by_cases h2:i=o
      · subst h2
        have h3:i≤i∧i<i+(r.length+1):=by omega
        have h4:i<cs.size:=by omega
        rw[if_pos h3]
        simp[h4]
      · have h3:¬ (o≤i∧i<o+(r.length+1)):=by omega
        rw[if_neg h3,Array.getElem?_setIfInBounds_ne (Ne.symm h2)]
theorem Am2{cs:Array Value}{l:List Value}(h:cs.size=l.length):ZI cs 0 l=l.toArray:=by
  apply Array.ext_getElem?
  intro i
  rw[BK l cs 0 i (by omega)]
  by_cases hi:i<l.length
  · rw[if_pos (by omega)];simp
  · rw[if_neg (by omega)]
    simp[h,hi]
theorem QH{cs a:Array Value}(h:cs.size=a.size):ZI cs 0 a.toList=a:=by
  rw[Am2 (by simpa using h)]
end Go.Proofs.YtjiagmjfnbljjaaGreatDoor
end
section
namespace Go.Proofs.YtjiagmjfnbljjaaGreatDoor
open Go
set_option maxHeartbeats 4000000
abbrev It:=UR
structure Rm where
  kind:Int
  at_:Int
  around:Int
  items:List It
  params:Int
  tries:Int
end Go.Proofs.YtjiagmjfnbljjaaGreatDoor
end
section
namespace Go.Proofs.YtjiagmjfnbljjaaGreatDoor
open Go
def nd0:Nd:=.mk 0 0 ⟨#[]⟩ false [] []
def Nd.kid(n:Nd)(i:Nat):Nd:=n.kids.getD i nd0
def Av9(p:Nd→Bool)(l:List Nd)(t:ByteArray):Bool:=l.any fun k=>p k && k.text.toList==t.toList
end Go.Proofs.YtjiagmjfnbljjaaGreatDoor
end
section
namespace Go.Proofs.YtjiagmjfnbljjaaGreatDoor
open Go
set_option maxHeartbeats 4000000
def kw(l:List Nd)(i:Nat):Nat:=match l[i]? with
  | some k=>2 * k.wt
  | none=>0
theorem kw3(l:List Nd):kw l 0+(kw l 1+(kw l 2+2 * Nd.wts (l.drop 3)))≤2 * Nd.wts l:=by
  rcases l with _ | ⟨a,_ | ⟨b,_ | ⟨c,r⟩⟩⟩<;>simp[kw,Nd.wts]<;>omega
theorem kw1(l:List Nd):kw l 0+2 * Nd.wts (l.drop 1)≤2 * Nd.wts l:=by
  cases l<;>simp[kw,Nd.wts];omega
theorem ApA:∀ l:List Nd,2 * Nd.wts l.dropLast+kw l (l.length - 1)≤2 * Nd.wts l
  | []=>by simp[kw,Nd.wts]
  | [a]=>by simp[kw,Nd.wts]
  | a :: b :: r=>by
    have:=ApA (b :: r)
    have h2:kw (a :: b :: r) ((a :: b :: r).length - 1)=kw (b :: r) ((b :: r).length - 1):=by simp[kw]
    rw[h2]
    simp only[List.dropLast_cons_of_ne_nil (List.cons_ne_nil b r),Nd.wts] at this ⊢
    omega
theorem Aov:∀ (l:List Nd) (i:Nat),Nd.wts (l.drop i)≤Nd.wts l
  | [],i=>by simp[Nd.wts]
  | k :: r,0=>by simp
  | k :: r,i+1=>by have:=Aov r i;simp only[List.drop_succ_cons,Nd.wts];omega
end Go.Proofs.YtjiagmjfnbljjaaGreatDoor
end
section
namespace Go.Proofs.YtjiagmjfnbljjaaGreatDoor
open Go
set_option maxHeartbeats 4000000
def vis(n:Nd):Bool:=right MD n || AkH n
theorem Aq4{n:Nd}(h:right MD n=true):vis n=true:=by unfold vis;rw[h];rfl
def vk(x:Kd):Bool:=x.2 || AkH x.1
theorem vk2{x:Kd}(h:x.2=true):vk x=true:=by unfold vk;rw[h];rfl
theorem vEx{x:Kd}(h:kEx x=true):vk x=true:=vk2 (by unfold kEx at h;simp at h;exact h.2)
theorem vTg{x:Kd}(h:kTg x=true):vk x=true:=vk2 (by unfold kTg at h;simp at h;exact h.2)
theorem vIs{k:Int}{x:Kd}(h:kIs k x=true):vk x=true:=vk2 (by unfold kIs at h;simp at h;exact h.2)
theorem vTs{x:Kd}(h:kTs x=true):vk x=true:=by
  unfold kTs at h
  rcases Bool.or_eq_true _ _▸h with h | h
  · exact vTg h
  · exact vIs h
theorem vBl{x:Kd}(h:kBl x=true):vk x=true:=vk2 (by unfold kBl at h;simp at h;exact h.2)
theorem vSt{x:Kd}(h:kSt x=true):vk x=true:=vk2 (by unfold kSt at h;simp at h;exact h.2)
theorem Aui{x:Kd}(h:Ag8 x=true):vk x=true:=by unfold vk;unfold Ag8 at h;rw[h];simp
theorem Ap4{x:Kd}(h:NE x=true):vk x=true:=by
  unfold NE at h
  rcases Bool.or_eq_true _ _▸h with h | h
  · exact Aui h
  · exact vEx h
theorem AvZ{x:Kd}(h:Akv x=true):vk x=true:=by
  unfold Akv at h
  rcases Bool.or_eq_true _ _▸h with h | h
  · exact Aui h
  · exact vBl h
theorem v1{p:Kd→Bool}(hp:∀ x,p x=true→vk x=true){l:List Kd}(h:Ads p l=true):l.all vk=true:=by
  rcases l with _ | ⟨a,_ | ⟨b,r⟩⟩<;>simp[Ads] at h ⊢
  exact hp _ h
theorem v2{p q:Kd→Bool}(hp:∀ x,p x=true→vk x=true)(hq:∀ x,q x=true→vk x=true){l:List Kd}(h:Adt p q l=true):l.all vk=true:=by
  rcases l with _ | ⟨a,_ | ⟨b,_ | ⟨c,r⟩⟩⟩<;>simp[Adt] at h ⊢
  exact⟨hp _ h.1,hq _ h.2⟩
theorem v3{p q s:Kd→Bool}(hp:∀ x,p x=true→vk x=true)(hq:∀ x,q x=true→vk x=true)(hs:∀ x,s x=true→vk x=true){l:List Kd}(h:AkR p q s l=true):l.all vk=true:=by
  rcases l with _ | ⟨a,_ | ⟨b,_ | ⟨c,_ | ⟨d,r⟩⟩⟩⟩<;>simp[AkR] at h ⊢
  exact⟨hp _ h.1.1,hq _ h.1.2,hs _ h.2⟩
theorem Api{p:Kd→Bool}(hp:∀ x,p x=true→vk x=true){l:List Kd}(h:l.all p=true):l.all vk=true:=by
  rw[List.all_eq_true] at h ⊢
  exact fun x hx=>hp x (h x hx)
theorem Ank:∀ (l:List Kd) (g:Bool),OU g l=true→l.all vk=true
  | [],_,_=>rfl
  | x :: r,g,h=>by
    unfold OU at h
    simp only[Bool.and_eq_true] at h
    simp only[List.all_cons,Bool.and_eq_true]
    refine⟨vk2 h.1.2,?_⟩
    have h2:=h.2
    split at h2
    · rw[List.isEmpty_iff.1 h2];rfl
    · split at h2
      · exact Ank r g (by simpa using (Bool.and_eq_true _ _▸h2).2)
      · exact Ank r true h2
theorem Aos:∀ l:List Kd,CE l=true→l.all vk=true
  | [],_=>rfl
  | x :: r,h=>by
    unfold CE at h
    simp only[Bool.and_eq_true] at h
    simp only[List.all_cons,Bool.and_eq_true]
    exact⟨vk2 h.1.1.2,Aos r h.2⟩
theorem Amy:∀ l:List Kd,BO l=true→l.all vk=true
  | [],_=>rfl
  | x :: r,h=>by
    unfold BO at h
    simp only[List.all_cons,Bool.and_eq_true]
    split at h
    · rename_i hx;exact⟨vIs hx,Amy r h⟩
    · simp only[Bool.and_eq_true] at h
      rw[List.isEmpty_iff.1 h.1];exact⟨vIs h.2,rfl⟩
theorem Amx:∀ l:List Kd,EG l=true→l.all vk=true
  | [],_=>rfl
  | x :: r,h=>by
    unfold EG at h
    split at h
    · rename_i hx
      simp only[List.all_cons,Bool.and_eq_true]
      exact⟨vEx hx,Amx r h⟩
    · exact Amy _ h
theorem AvX{l:List Kd}(h:AlS l=true):l.all vk=true:=by
  cases l with
  | nil=>rfl
  | cons x r=>
    simp only[AlS,Bool.and_eq_true] at h
    simp only[List.all_cons,Bool.and_eq_true]
    exact⟨vEx h.1,Amx r h.2⟩
theorem Auh{p:Kd→Bool}(hp:∀ x,p x=true→vk x=true){l:List Kd}(h:Ag1 p l=true):l.all vk=true:=by
  rcases l with _ | ⟨a,_ | ⟨b,_ | ⟨c,r⟩⟩⟩<;>simp only[Ag1,Bool.and_eq_true,Bool.false_eq_true] at h
  simp only[List.all_cons,Bool.and_eq_true]
  exact⟨hp _ h.1.1.1,vTs h.1.1.2,vEx h.1.2,Api (fun _=>vEx) h.2⟩
theorem Awa{l:List Kd}(h:AnB l=true):l.all vk=true:=by
  unfold AnB at h
  cases hl:l.getLast? with
  | none=>rw[hl] at h;cases h
  | some b=>
    rw[hl] at h
    simp only[Bool.and_eq_true] at h
    have:l=l.dropLast ++ [b]:=by
      have hne:l≠[]:=fun hc=>by rw[hc] at hl;cases hl
      have hb:l.getLast hne=b:=by rw[List.getLast?_eq_some_getLast hne] at hl;simpa using hl
      rw[← hb];exact(List.dropLast_concat_getLast hne).symm
    rw[this,List.all_append]
    simp only[Bool.and_eq_true,List.all_cons,List.all_nil,and_true]
    exact⟨Ank _ _ h.1,vBl h.2⟩
theorem Awb{l:List Kd}(h:Aon l=true):l.all vk=true:=by
  rcases l with _ | ⟨a,_ | ⟨b,r⟩⟩<;>simp only[Aon,Bool.and_eq_true,Bool.false_eq_true] at h
  simp only[List.all_cons,Bool.and_eq_true]
  have:=Aos _ h.2
  simp only[List.all_cons,Bool.and_eq_true] at this
  exact⟨vBl h.1,this⟩
theorem At7{a b:Bool}(h:(a && b)=true):a=true∧b=true:=by simpa using h
theorem Avw{l:List Kd}(h:l.isEmpty=true):l.all vk=true:=by rw[List.isEmpty_iff.1 h];rfl
theorem vOr{l:List Kd}(h:(l.isEmpty || Ads NE l)=true):l.all vk=true:=by
  cases hl:l.isEmpty with
  | true=>exact Avw hl
  | false=>rw[hl] at h;exact v1 (fun _=>Ap4) h
theorem vPr{x:Kd}(h:(kIs 39 x || kIs 40 x)=true):vk x=true:=by
  cases h1:kIs 39 x with
  | true=>exact vIs h1
  | false=>rw[h1] at h;exact vIs h
theorem VG{c:Prop}[Decidable c]{a b:Bool}{P:Prop}(h:(if c then a else b)=true)(ht:a=true→P)(hf:b=true→P):P:=by
  by_cases hc:c
  · rw[if_pos hc] at h;exact ht h
  · rw[if_neg hc] at h;exact hf h
theorem AvY(k:Int)(t:ByteArray)(l:List Kd)(h:kidsB k t l=true):l.all vk=true:=by
  unfold kidsB at h
  refine VG h (fun h=>v1 (fun _=>vIs) h) fun h => ?_
  refine VG h (fun h=>Api (fun _=>vSt) h) fun h => ?_
  refine VG h (fun h=>v1 (fun _=>vEx) h) fun h => ?_
  refine VG h (fun h=>v2 (fun _=>vTg) (fun _=>vEx) h) fun h => ?_
  refine VG h (fun h=>v2 (fun _=>vIs) (fun _=>vEx) h) fun h => ?_
  refine VG h (fun h=>v2 (fun _=>vTg) (fun _=>vEx) h) fun h => ?_
  refine VG h (fun h=>v1 (fun _=>vTg) h) fun h => ?_
  refine VG h (fun h=>Avw h) fun h => ?_
  refine VG h (fun h=>v1 (fun _=>Ap4) h) fun h => ?_
  refine VG h (fun h=>Api (fun _=>vIs) (At7 h).2) fun h => ?_
  refine VG h (fun h=>v3 (fun _=>vEx) (fun _=>vBl) (fun _=>AvZ) h) fun h => ?_
  refine VG h (fun h=>v2 (fun _=>vEx) (fun _=>vBl) h) fun h => ?_
  refine VG h (fun h=>v3 (fun _=>vTs) (fun _=>vEx) (fun _=>vBl) h) fun h => ?_
  refine VG h (fun h=>Awa h) fun h => ?_
  refine VG h (fun h=>vOr h) fun h => ?_
  refine VG h (fun h=>v2 (fun _=>Ap4) (fun _=>vBl) h) fun h => ?_
  refine VG h (fun h=>Awb h) fun h => ?_
  refine VG h (fun h=>v2 (fun _=>Ap4) (fun _=>vBl) (At7 h).1) fun h => ?_
  refine VG h (fun h=>Api (fun _=>vTg) (At7 h).2) fun h => ?_
  refine VG h (fun h=>Avw h) fun h => ?_
  refine VG h (fun h=>Api (fun _=>vEx) h) fun h => ?_
  refine VG h (fun h=>Api (fun _=>vEx) (At7 h).2) fun h => ?_
  refine VG h (fun h=>Api (fun _=>vPr) h) fun h => ?_
  refine VG h (fun h=>v2 (fun _=>vEx) (fun _=>vEx) h) fun h => ?_
  refine VG h (fun h=>v1 (fun _=>vEx) h) fun h => ?_
  refine VG h (fun h=>Auh (fun _=>vEx) h) fun h => ?_
  refine VG h (fun h=>Auh (fun _=>vIs) h) fun h => ?_
  refine VG h (fun h=>v3 (fun _=>vEx) (fun _=>vEx) (fun _=>vEx) h) fun h => ?_
  refine VG h (fun h=>v2 (fun _=>vEx) (fun _=>vEx) h) fun h => ?_
  refine VG h (fun h=>AvX h) fun h => ?_
  refine VG h (fun h=>v1 (fun _=>vEx) h) fun h => ?_
  cases h
theorem AsN{n:Nd}(h:right MD n=true){k:Nd}(hk:k∈n.kids):vis k=true:=by
  rw[CJ] at h
  unfold EW at h
  simp only[Bool.and_eq_true] at h
  have:=AvY _ _ _ h.2
  rw[List.all_eq_true] at this
  exact this (kd k) (List.mem_map_of_mem hk)
end Go.Proofs.YtjiagmjfnbljjaaGreatDoor
end
section
namespace Go.Proofs.YtjiagmjfnbljjaaGreatDoor
open Go
theorem ZS{i:Int}{n:Nat}(h0:0≤i)(h1:i<(n:Int))(hn:n≤9223372036854775807):IntKind.i64.wrap (i+1)=i+1:=JY (by omega) (by omega)
def KE(w:World)(ss:List ByteArray)(s:Sl):Prop:=s.n=ss.length∧∀ i t,ss[i]? = some t→∃ a,s.a=some a∧w.cell? (a.add i)=some (.string t)
theorem KE.ext{w w':World}{ss:List ByteArray}{s:Sl}(h:KE w ss s)(e:Ext w w'):KE w' ss s:=
  ⟨h.1,fun i t hi=>let ⟨a,ha,hc⟩:=h.2 i t hi;⟨a,ha,e.cell hc⟩⟩
theorem KE.made{w w':World}{ss:List ByteArray}{a:Addr}{t:TypeId}{n c:Nat}(h:LG w (.cells (ss.map Value.string).toArray t) a w')(hn:n=ss.length):KE w' ss ⟨some a,n,c⟩:=
  ⟨hn,fun i t hi=>⟨a,rfl,by have:=h.cells i (.string t) (by simpa using hi);exact this⟩⟩
theorem AlP(l:List (List UInt8))(t:ByteArray):((l.map fun x=>(⟨x.toArray⟩:ByteArray)).any fun x=>x.toList==t.toList)=l.any (· == t.toList):=by
  induction l with
  | nil=>rfl
  | cons x r ih=>simp only[List.map_cons,List.any_cons,ih,ByteArray.toList_mk]
theorem AfM{w:World}(t:ByteArray):Rdv (SB t) (AiW t) w:=by
  intro K hK
  refine Ai2 _ _ _ ?_
  unfold AgL
  intro a w1 h1
  have hs:KE w1 (AeI.map fun x=>⟨x.toArray⟩) ⟨some a,26,26⟩:=KE.made h1 rfl
  have hlen:(AeI.map fun x=>(⟨x.toArray⟩:ByteArray)).length=26:=rfl
  unfold AiW at hK
  rw[← AlP] at hK
  generalize (AeI.map fun x=>(⟨x.toArray⟩:ByteArray))=ss at hs hK hlen
  refine YE (fun n i w'=>w'=w1∧∃ k:Nat,i=k∧n+k=ss.length∧(ss.take k).any (fun x=>x.toList==t.toList)=false) ss.length 0 rfl ⟨rfl,0,rfl,rfl,rfl⟩ ?_
  rintro n i w' ⟨rfl,k,rfl,hn,hp⟩ again hag
  refine JE (fun hlt => ?_) (fun hge => ?_)
  · have hlt':k<ss.length:=by simp at hlt;omega
    obtain⟨a',ha,hc⟩:=hs.2 k ss[k] (List.getElem?_eq_getElem hlt')
    simp only[Option.some.injEq] at ha
    subst ha
    refine⟨by omega,by omega,?_⟩
    refine YS (x:=ss[k]) (by simpa using hc) ?_
    refine JE (fun he => ?_) (fun he => ?_)
    · refine Rt.mk (h:=JS) true ?_
      have:(ss.any fun x=>x.toList==t.toList)=true:=List.any_eq_true.2 ⟨ss[k],List.getElem_mem _,he⟩
      rw[← this];exact hK _ h1.fr
    · rw[ZS (n:=ss.length) (by omega) (by omega) (by omega)]
      refine hag (n - 1) ((k:Int)+1) w' (by omega) ⟨rfl,k+1,by omega,by omega,?_⟩
      rw[List.take_succ_eq_append_getElem hlt']
      simp only[List.any_append,hp,List.any_cons,he,List.any_nil,Bool.or_false]
  · have hge':k=ss.length:=by simp at hge;omega
    refine Rt.mk (h:=JS) false ?_
    rw[hge',List.take_length] at hp
    rw[← hp];exact hK _ h1.fr
theorem AfL{l:List UInt8}:∀ (f:Bool) (k:Nat),EM f (l.take k)=true→∀ (h:k<l.length),EM f (l.take (k+1))=(HL l[k].toNat || (!(f && k==0) && IJ l[k].toNat)):=by
  induction l with
  | nil=>intro f k _ h;simp at h
  | cons c r ih=>
    intro f k hp h
    cases k with
    | zero=>cases f<;>simp[EM]
    | succ k=>
      simp only[List.take_succ_cons,EM,Bool.and_eq_true] at hp ⊢
      have:=ih false k hp.2 (by simpa using h)
      rw[this,hp.1]
      simp
theorem Aen{l:List UInt8}:∀ (f:Bool) (k:Nat),EM f (l.take k)=false→EM f l=false:=by
  induction l with
  | nil=>intro f k h;simp[EM] at h
  | cons c r ih=>
    intro f k h
    cases k with
    | zero=>simp[EM] at h
    | succ k=>
      simp only[List.take_succ_cons,EM,Bool.and_eq_false_iff] at h ⊢
      rcases h with h | h
      · exact .inl h
      · exact .inr (ih false k h)
theorem AlA{w:World}(t:ByteArray)(hl:t.size≤2147483648):Rdv (AbW t) (OS t) w:=by
  intro K hK
  refine Ai3 _ _ _ ?_
  unfold AgM
  have hsz:t.toList.length=t.size:=by rw[ByteArray.toList_eq];simp
  refine YE (fun n i w'=>w'=w∧∃ k:Nat,i=k∧n+k=t.size∧EM true (t.toList.take k)=true) t.size 0 rfl ⟨rfl,0,rfl,rfl,by simp[EM]⟩ ?_
  rintro n i w' ⟨rfl,k,rfl,hn,hp⟩ again hag
  refine JE (fun hlt => ?_) (fun hge => ?_)
  · have hlt':k<t.size:=by simp at hlt;omega
    refine YZ (h:=QC .u8) ((t[k]).toNat:Int) (HU Tryz.underlying9 t k (by omega) (by simpa using hlt')) ?_
    have hstep:=AfL (l:=t.toList) true k hp (by omega)
    have hget:(t.toList[k]'(by omega))=t[k]:=by simp[ByteArray.toList_eq];rfl
    rw[hget] at hstep
    have next:(HL t[k].toNat || (!(k==0) && IJ t[k].toNat))=true→again [.int .i64 (IntKind.i64.wrap ((k:Int)+1))] w':=fun hc=>by
      rw[ZS (n:=t.size) (by omega) (by omega) (by omega)]
      exact hag (n - 1) ((k:Int)+1) w' (by omega) ⟨rfl,k+1,by omega,by omega,by rw[hstep];simpa using hc⟩
    have stop:(HL t[k].toNat || (!(k==0) && IJ t[k].toNat))=false→Rt JS K (.bool false) w':=fun hc=>by
      have h1:=Aen true (k+1) (l:=t.toList) (by rw[hstep];simpa using hc)
      refine Rt.mk (h:=JS) false ?_
      have:OS t=false:=by simp[OS,h1]
      rw[← this];exact hK _ (Ext.refl _)
    clear hag hK hstep
    generalize (t[k].toNat:Int)=c at next stop
    have hk0:((k:Int) > 0)↔¬ (k=0):=by omega
    repeat' (refine JE (fun _ => ?_) (fun _ => ?_))
    all_goals first
      | (refine next ?_;clear next stop;simp_all [HL,IJ];done)
      | (refine stop ?_;clear next stop;simp_all [HL,IJ];done)
      | (refine next ?_;clear next stop;simp_all [HL,IJ];omega)
      | (refine stop ?_;clear next stop;simp_all [HL,IJ];omega)
  · have hge':k=t.size:=by simp at hge;omega
    rw[hge',← hsz,List.take_length] at hp
    have he:(⟨#[]⟩:ByteArray).toList = []:=ByteArray.toList_mk []
    rw[he]
    refine JE (fun h0 => ?_) (fun h0 => ?_)
    · refine AfM t _ fun w2 e2 => ?_
      refine Rt.mk (h:=JS) _ ?_
      have:OS t = !AiW t:=by simp at h0;simp[OS,hp,h0]
      rw[← this];exact hK _ e2
    · refine Rt.mk (h:=JS) false ?_
      have:OS t=false:=by simp at h0;simp[OS,h0]
      rw[← this];exact hK _ (Ext.refl _)
end Go.Proofs.YtjiagmjfnbljjaaGreatDoor
end
section
namespace Go.Proofs.YtjiagmjfnbljjaaGreatDoor
open Go
set_option maxHeartbeats 4000000
set_option linter.unusedVariables false
set_option linter.unusedSimpArgs false
abbrev Tk:=JN
def App(w:World)(I:Nat→Prop)(m:List Int)(s:Sl):Prop:=
  s.n=m.length∧s.n≤s.c∧(∀ v∈m,0≤v∧v<4294967296)∧(s.a=none→s.c=0)∧∀ a,s.a=some a→(m≠[]→I a.block)∧JD w a (m.map (.int .u32 ·))
mutual
def AA(w:World)(I:Nat→Prop):Nd→JA→Prop
  | .mk k a t g m ks,x=>x.Kind=k∧x.At=a∧x.Text=t∧x.Num_Neg=g∧App w I m x.Num_Mag∧x.Kids.n=ks.length∧x.Kids.n≤x.Kids.c∧x.Kids.c≤9223372036854775807∧(x.Kids.a=none→x.Kids.c=0)∧OP w I ks x.Kids.a
def OP(w:World)(I:Nat→Prop):List Nd→Option Addr→Prop
  | [],_=>True
  | k :: ks,p=>∃ a,p=some a∧I a.block∧(∃ x:JA,JD w a x.cells.toList∧AA w I k x)∧OP w I ks (some (a.add 6))
end
theorem App.keep{D:Nat→Prop}{w w':World}{I I':Nat→Prop}{m:List Int}{s:Sl}(h:App w I m s)(e:Fr D w w')(hd:∀ b,I b→¬ D b)(hm:∀ b,I b→I' b):App w' I' m s:=by
  obtain⟨h1,h2,h3,h4,h5⟩:=h
  refine⟨h1,h2,h3,h4,fun a ha => ?_⟩
  obtain⟨h6,h7⟩:=h5 a ha
  refine⟨fun h=>hm _ (h6 h),?_⟩
  by_cases hm:m = []
  · subst hm;intro i v hi;simp at hi
  · exact h7.fr e (hd _ (h6 hm))
mutual
theorem AA.keep{D:Nat→Prop}{w w':World}{I I':Nat→Prop}(e:Fr D w w')(hd:∀ b,I b→¬ D b)(hm:∀ b,I b→I' b):∀ (n:Nd) (x:JA),AA w I n x→AA w' I' n x
  | .mk k a t g m ks,x,h=>by
    unfold AA at h ⊢
    obtain⟨h1,h2,h3,h4,h5,h6,h7,h9,h7',h8⟩:=h
    exact⟨h1,h2,h3,h4,h5.keep e hd hm,h6,h7,h9,h7',OP.keep e hd hm ks _ h8⟩
theorem OP.keep{D:Nat→Prop}{w w':World}{I I':Nat→Prop}(e:Fr D w w')(hd:∀ b,I b→¬ D b)(hm:∀ b,I b→I' b):∀ (ks:List Nd) (p:Option Addr),OP w I ks p→OP w' I' ks p
  | [],_,_=>by unfold OP;trivial
  | k :: ks,p,h=>by
    unfold OP at h ⊢
    obtain⟨a,ha,hb,⟨x,hc,hx⟩,hr⟩:=h
    exact⟨a,ha,hm _ hb,⟨x,hc.fr e (hd _ hb),AA.keep e hd hm k x hx⟩,OP.keep e hd hm ks _ hr⟩
end
mutual
theorem AA.rep{w:World}{I:Nat→Prop}{B:Nat}(hB:∀ b,I b→b<B):∀ (n:Nd) (x:JA),AA w I n x→Rep w B n x
  | .mk k a t g m ks,x,h=>by
    unfold AA at h
    unfold Rep
    obtain⟨h1,h2,h3,h4,⟨g1,g2,g3,g4,g5⟩,h6,h7,_,h7',h8⟩:=h
    exact⟨h1,h2,h3,h4,⟨g1,g2,g3,g4,fun a ha=>⟨fun hm=>hB _ ((g5 a ha).1 hm),(g5 a ha).2⟩⟩,h6,h7,h7',OP.rep hB ks _ h8⟩
theorem OP.rep{w:World}{I:Nat→Prop}{B:Nat}(hB:∀ b,I b→b<B):∀ (ks:List Nd) (p:Option Addr),OP w I ks p→IS w B ks p
  | [],_,_=>by unfold IS;trivial
  | k :: ks,p,h=>by
    unfold OP at h
    unfold IS
    obtain⟨a,ha,hb,⟨x,hc,hx⟩,hr⟩:=h
    exact⟨a,ha,hB _ hb,⟨x,hc,AA.rep hB k x hx⟩,OP.rep hB ks _ hr⟩
end
section
variable{w:World}{I:Nat→Prop}{n:Nd}{x:JA}
theorem AA.kind(h:AA w I n x):x.Kind=n.kind:=by cases n;unfold AA at h;exact h.1
theorem AA.at_(h:AA w I n x):x.At=n.at_:=by cases n;unfold AA at h;exact h.2.1
end
abbrev Rp:=List (Nd×JA)
def XP(w0:World)(r:Rp):Xt w0.heap.size where
  p I w:=Ext w0 w∧∀ q∈r,AA w I q.1 q.2
  keep:=fun {I w w'} h k=>⟨Fr.step h.1 k fun i hi hd=>by have:=hd.1;omega,fun q hq=>AA.keep k (fun b hb hd=>hd.2 hb) (fun _ h=>h) _ _ (h.2 q hq)⟩
  mono:=fun {I I' w} h hm=>⟨h.1,fun q hq=>AA.keep (Ext.refl w) (fun _ _ h=>h) hm _ _ (h.2 q hq)⟩
structure PS where
  i:Nat
  code:Int
  at_:Int
structure Anq(w0:World)(L:Sl)(T:List Tk):Prop where
  n:L.n=T.length
  len:T.length≤2147483648
  cells:∀ (i:Nat) (t:Tk),T[i]? = some t→∃ a,L.a=some a∧JD w0 (a.add (i * 3)) t.cells.toList
structure Pe where
  w0:World
  L:Sl
  T:List Tk
  bs:Nat
  hT:Anq w0 L T
def AiS(L:Sl)(s:PS):Obj:=.cells #[L.v,.int .i64 s.i,.int .i64 s.code,.int .i64 s.at_] 134
def Zp(r:Rp):List Nd→List JA→Prop
  | [],[]=>True
  | n :: ns,x :: xs=>(n,x)∈r∧Zp r ns xs
  | _,_=>False
def VM(xs:List JA):List Value:=xs.flatMap fun x=>x.cells.toList
abbrev Acc:=List (Sl×List Nd)
def Zps(r:Rp):Acc→List (List JA)→Prop
  | [],[]=>True
  | a :: A,xs :: xss=>(Zp r a.2 xs∧a.1.n=xs.length)∧Zps r A xss
  | _,_=>False
def An6(a:Sl)(xs:List JA):En:=.row 27 6 a (VM xs)
def AcB:Acc→List (List JA)→List En
  | a :: A,xs :: xss=>An6 a.1 xs :: AcB A xss
  | _,_=>[]
theorem Zp.mono{r r':Rp}(h:∀ q∈r,q∈r'):∀ {ns:List Nd} {xs:List JA},Zp r ns xs→Zp r' ns xs
  | [],[],_=>trivial
  | _ :: _,_ :: _,hz=>⟨h _ hz.1,Zp.mono h hz.2⟩
  | [],_ :: _,hz=>hz.elim
  | _ :: _,[],hz=>hz.elim
theorem Zp.length{r:Rp}:∀ {ns:List Nd} {xs:List JA},Zp r ns xs→xs.length=ns.length
  | [],[],_=>rfl
  | _ :: _,_ :: _,hz=>by simp[Zp.length hz.2]
  | [],_ :: _,hz=>hz.elim
  | _ :: _,[],hz=>hz.elim
theorem Zp.snoc{r:Rp}{n:Nd}{x:JA}(h:(n,x)∈r):∀ {ns:List Nd} {xs:List JA},Zp r ns xs→Zp r (ns ++ [n]) (xs ++ [x])
  | [],[],_=>⟨h,trivial⟩
  | _ :: _,_ :: _,hz=>⟨hz.1,Zp.snoc h hz.2⟩
  | [],_ :: _,hz=>hz.elim
  | _ :: _,[],hz=>hz.elim
theorem Zps.mono{r r':Rp}(h:∀ q∈r,q∈r'):∀ {A:Acc} {xss:List (List JA)},Zps r A xss→Zps r' A xss
  | [],[],_=>trivial
  | _ :: _,_ :: _,hz=>⟨⟨hz.1.1.mono h,hz.1.2⟩,Zps.mono h hz.2⟩
  | [],_ :: _,hz=>hz.elim
  | _ :: _,[],hz=>hz.elim
def PMr(e:Pe)(w:World)(s:PS)(A:Acc)(l:List En)(r:Rp):Prop:=
  ∃ xss r1,Zps r1 A xss∧Mz e.w0.heap.size (XP e.w0 (r1++r)) w (.box e.bs (AiS e.L s) :: (AcB A xss++l))
def PM(e:Pe)(w:World)(s:PS)(A:Acc)(l:List En)(r:Rp):Prop:=PMr e w s A l r∧s.i≤e.T.length
theorem XP.sub{w0:World}{r r':Rp}{w:World}{l:List En}(h:Mz w0.heap.size (XP w0 r) w l)(hs:∀ q∈r',q∈r):Mz w0.heap.size (XP w0 r') w l:=by
  obtain⟨I,h1,h2,h3⟩:=h
  exact⟨I,h1,h2,fun q hq=>h3 q (hs q hq)⟩
theorem Atc{α:Type}(a:α)(p l:List α)(k:Nat):(a :: (p++l))[p.length+1+k]? = l[k]?:=by
  rw[show p.length+1+k=(p.length+k)+1 by omega,List.getElem?_cons_succ,List.getElem?_append_right (by omega)]
  congr 1;omega
theorem AtU{α:Type}(a:α)(p l:List α)(k:Nat)(x:α):(a :: (p++l)).set (p.length+1+k) x=a :: (p++l.set k x):=by
  rw[show p.length+1+k=(p.length+k)+1 by omega,List.set_cons_succ,List.set_append_right _ _ (by omega)]
  congr 3;omega
section
variable{e:Pe}{w w':World}{s:PS}{A:Acc}{l:List En}{r:Rp}
theorem PMr.ext(h:PMr e w s A l r)(x:Ext w w'):PMr e w' s A l r:=by
  obtain⟨xss,r1,hz,hm⟩:=h
  exact⟨xss,r1,hz,hm.ext x⟩
theorem PM.ext(h:PM e w s A l r)(x:Ext w w'):PM e w' s A l r:=⟨h.1.ext x,h.2⟩
theorem PMr.base(h:PMr e w s A l r):Ext e.w0 w:=by
  obtain⟨xss,r1,hz,I,_,h2,_⟩:=h
  exact h2
theorem PMr.st(h:PMr e w s A l r):w.heap[e.bs]? = some (AiS e.L s):=by
  obtain⟨xss,r1,hz,hm⟩:=h
  exact hm.heap (by simp)
theorem PMr.bx{o:Obj}{K:Addr→World→Prop}(h:PMr e w s A l r)(k:∀ b w',PMr e w' s A (.box b o :: l) r→K ⟨b,0,none⟩ w'):bx o K w:=by
  obtain⟨xss,r1,hz,hm⟩:=h
  refine hm.bx fun b w' h'=>k b w' ⟨xss,r1,hz,h'.perm ?_⟩
  exact(List.Perm.swap _ _ _).trans (List.Perm.cons _ List.perm_middle.symm)
theorem PM.bx{o:Obj}{K:Addr→World→Prop}(h:PM e w s A l r)(k:∀ b w',PM e w' s A (.box b o :: l) r→K ⟨b,0,none⟩ w'):bx o K w:=h.1.bx fun b w' h'=>k b w' ⟨h',h.2⟩
theorem PMr.dw{K:World→Prop}(h:PMr e w s A l r)(k:∀ w',PMr e w' s A l r→K w'):dw K w:=fun w' d=>k w' (h.ext d.fr)
theorem PM.dw{K:World→Prop}(h:PM e w s A l r)(k:∀ w',PM e w' s A l r→K w'):dw K w:=fun w' d=>k w' (h.ext d.fr)
theorem PMr.set{k b:Nat}{o o':Obj}(h:PMr e w s A l r)(hk:l[k]? = some (.box b o))(x:HZ w b o' w'):PMr e w' s A (l.set k (.box b o')) r:=by
  obtain⟨xss,r1,hz,hm⟩:=h
  refine⟨xss,r1,hz,?_⟩
  have:=hm.set (k:=(AcB A xss).length+1+k) (by rw[Atc];exact hk) x
  rw[AtU] at this
  exact this
theorem PMr.ok(h:PMr e w s A l r){x:En}(hx:x∈l):x.ok e.w0.heap.size w:=by
  obtain⟨xss,r1,hz,hm⟩:=h
  exact hm.ok (by simp[hx])
theorem PM.ok(h:PM e w s A l r){x:En}(hx:x∈l):x.ok e.w0.heap.size w:=h.1.ok hx
theorem PM.heap(h:PM e w s A l r){b:Nat}{o:Obj}(hx : .box b o∈l):w.heap[b]? = some o:=(h.1.ok hx).1
theorem PM.sub{l':List En}{r':Rp}(h:PM e w s A l r)(hl:l'.Sublist l)(hr:∀ q∈r',q∈r):PM e w s A l' r':=by
  obtain⟨⟨xss,r1,hz,hm⟩,hi⟩:=h
  refine⟨⟨xss,r1,hz,XP.sub (hm.sub (.cons_cons _ ((List.Sublist.refl _).append hl))) fun q hq => ?_⟩,hi⟩
  rcases List.mem_append.1 hq with hq | hq
  · exact List.mem_append_left _ hq
  · exact List.mem_append_right _ (hr q hq)
theorem PMr.turn{s':PS}(h:PMr e w s A l r)(x:HZ w e.bs (AiS e.L s') w'):PMr e w' s' A l r:=by
  obtain⟨xss,r1,hz,hm⟩:=h
  exact⟨xss,r1,hz,hm.set (k:=0) rfl x⟩
theorem PM.rep(h:PM e w s A l r){n:Nd}{x:JA}(hx:(n,x)∈r):∃ I,AA w I n x:=by
  obtain⟨⟨xss,r1,hz,I,_,_,h3⟩,hi⟩:=h
  exact⟨I,h3 (n,x) (List.mem_append_right _ hx)⟩
theorem PM.at_(h:PM e w s A l r){n:Nd}{x:JA}(hx:(n,x)∈r):x.At=n.at_:=by
  obtain⟨I,h⟩:=h.rep hx
  exact h.at_
theorem PM.kind(h:PM e w s A l r){n:Nd}{x:JA}(hx:(n,x)∈r):x.Kind=n.kind:=by
  obtain⟨I,h⟩:=h.rep hx
  exact h.kind
theorem PM.st_nd(k:Nat){b:Nat}{cs:Array Value}{x:JA}{K:World→Prop}(h:PM e w s A l r)(hk:l[k]? = some (.box b (.cells cs 27)))(hc:cs.size=6)(c:∀ w',PM e w' s A (l.set k (.box b (.cells x.cells 27))) r→K w'):JC ⟨b,0,none⟩ x K w:=by
  refine XH (h.heap (List.mem_of_getElem? hk)) (by omega) fun w' h'=>c w' ⟨?_,h.2⟩
  rw[QH (hc.trans rfl)] at h'
  exact h.1.set hk h'
theorem PM.st_tk(k:Nat){b:Nat}{cs:Array Value}{x:JN}{K:World→Prop}(h:PM e w s A l r)(hk:l[k]? = some (.box b (.cells cs 131)))(hc:cs.size=3)(c:∀ w',PM e w' s A (l.set k (.box b (.cells x.cells 131))) r→K w'):XA ⟨b,0,none⟩ x K w:=by
  refine Ac3 (h.heap (List.mem_of_getElem? hk)) (by omega) fun w' h'=>c w' ⟨?_,h.2⟩
  rw[QH (hc.trans rfl)] at h'
  exact h.1.set hk h'
theorem PMr.st_tk(k:Nat){b:Nat}{cs:Array Value}{x:JN}{K:World→Prop}(h:PMr e w s A l r)(hk:l[k]? = some (.box b (.cells cs 131)))(hc:cs.size=3)(c:∀ w',PMr e w' s A (l.set k (.box b (.cells x.cells 131))) r→K w'):XA ⟨b,0,none⟩ x K w:=by
  refine Ac3 (h.ok (List.mem_of_getElem? hk)).1 (by omega) fun w' h'=>c w' ?_
  rw[QH (hc.trans rfl)] at h'
  exact h.set hk h'
theorem PM.cells{b:Nat}{cs:Array Value}{t:TypeId}(h:PM e w s A l r)(hx : .box b (.cells cs t)∈l):JD w ⟨b,0,none⟩ cs.toList:=.all (h.heap hx)
theorem PMr.cells{b:Nat}{cs:Array Value}{t:TypeId}(h:PMr e w s A l r)(hx : .box b (.cells cs t)∈l):JD w ⟨b,0,none⟩ cs.toList:=.all (h.ok hx).1
theorem PM.ld_nd{b:Nat}{x:JA}{K:JA→World→Prop}(h:PM e w s A l r)(hx : .box b (.cells x.cells 27)∈l)(c:K x w):JF ⟨b,0,none⟩ K w:=QV (h.cells hx) c
theorem PM.ld_tk{b:Nat}{x:JN}{K:JN→World→Prop}(h:PM e w s A l r)(hx : .box b (.cells x.cells 131)∈l)(c:K x w):BI ⟨b,0,none⟩ K w:=AcU (h.cells hx) c
theorem PM.lr_nd{b:Nat}{x:JA}{K:JA→Prop}(h:PM e w s A l r)(hx : .box b (.cells x.cells 27)∈l)(c:K x):JG ⟨b,0,none⟩ K w:=Aej (h.cells hx) c
theorem PM.ld_ndAt{b:Nat}{n:Nd}{x:JA}{K:Int→World→Prop}(h:PM e w s A l r)(hx : .box b (.cells x.cells 27)∈l)(hr:(n,x)∈r)(c:K n.at_ w):JK ((⟨b,0,none⟩:Addr).add 1) K w:=by
  refine JO (h.cells hx 1 _ rfl) ?_
  rw[h.at_ hr];exact c
theorem PM.ld_ndKind{b:Nat}{n:Nd}{x:JA}{K:Int→World→Prop}(h:PM e w s A l r)(hx : .box b (.cells x.cells 27)∈l)(hr:(n,x)∈r)(c:K n.kind w):JK ⟨b,0,none⟩ K w:=by
  refine JO (h.cells hx 0 _ rfl) ?_
  rw[h.kind hr];exact c
theorem PM.ld_tkKind{b:Nat}{x:JN}{K:Int→World→Prop}(h:PM e w s A l r)(hx : .box b (.cells x.cells 131)∈l)(c:K x.Kind w):JK ⟨b,0,none⟩ K w:=JO (h.cells hx 0 _ rfl) c
theorem PM.ld_tkText{b:Nat}{x:JN}{K:ByteArray→World→Prop}(h:PM e w s A l r)(hx : .box b (.cells x.cells 131)∈l)(c:K x.Text w):QO ((⟨b,0,none⟩:Addr).add 1) K w:=YS (h.cells hx 1 _ rfl) c
theorem PM.ld_tkAt{b:Nat}{x:JN}{K:Int→World→Prop}(h:PM e w s A l r)(hx : .box b (.cells x.cells 131)∈l)(c:K x.At w):JK ((⟨b,0,none⟩:Addr).add 2) K w:=JO (h.cells hx 2 _ rfl) c
def Sof(B:Nat)(l:List En)(w:World):Prop:=∀ x∈l,x.ok B w
theorem PM.sof(h:PM e w s A l r){l':List En}(hl:∀ x∈l',x∈l):Sof e.w0.heap.size l' w:=fun x hx=>h.ok (hl x hx)
theorem Sof.cells{B b:Nat}{cs:Array Value}{t:TypeId}{l:List En}(hx : .box b (.cells cs t)∈l){w:World}(h:Sof B l w):JD w ⟨b,0,none⟩ cs.toList:=.all (h _ hx).1
theorem Sof.ld_nd{B b:Nat}{l:List En}{x:JA}{K:JA→Prop}(hx : .box b (.cells x.cells 27)∈l)(c:K x):QB (Sof B l) ⟨b,0,none⟩ K:=PZ (fun w' h=>Sof.cells hx h) c
theorem Sof.ld_ndAt{B b:Nat}{l:List En}{x:JA}{K:Int→Prop}(hx : .box b (.cells x.cells 27)∈l)(c:K x.At):QG (Sof B l) ((⟨b,0,none⟩:Addr).add 1) K:=JV (fun w' h=>Sof.cells hx h 1 _ rfl) c
theorem Sof.ld_tkAt{B b:Nat}{l:List En}{x:JN}{K:Int→Prop}(hx : .box b (.cells x.cells 131)∈l)(c:K x.At):QG (Sof B l) ((⟨b,0,none⟩:Addr).add 2) K:=JV (fun w' h=>Sof.cells hx h 2 _ rfl) c
theorem Sof.ld_tkText{B b:Nat}{l:List En}{x:JN}{K:ByteArray→Prop}(hx : .box b (.cells x.cells 131)∈l)(c:K x.Text):YY (Sof B l) ((⟨b,0,none⟩:Addr).add 1) K:=YO (fun w' h=>Sof.cells hx h 1 _ rfl) c
end
end Go.Proofs.YtjiagmjfnbljjaaGreatDoor
end
