/- Lemmas for the statement proved in the last of these texts: part 15 of 25. Conditions: none. -/
import Derived.Test.YtjiagmjfnbljjaaGreatDoorGam
import Derived.Test.YtjiagmjfnbljjaaGreatDoorGai
import Derived.Lib.AppendStr
import Derived.Laws.Runes
import Derived.Laws.Cover4
section
namespace Go.Proofs.YtjiagmjfnbljjaaGreatDoor
open Go
set_option maxHeartbeats 4000000
set_option linter.unusedVariables false
set_option linter.unusedSimpArgs false
def Ad0(s:ByteArray):Nat→Nat→Int→Int
  | 0,_,v=>v
  | n+1,i,v=>
    if decide (ZR s i≥48) && decide (ZR s i≤57) then Ad0 s n (i+1) (16 * v+(ZR s i - 48)) else
    if decide (ZR s i≥97) && decide (ZR s i≤102) then Ad0 s n (i+1) (16 * v+(ZR s i - 97)+10) else
    if decide (ZR s i≥65) && decide (ZR s i≤70) then Ad0 s n (i+1) (16 * v+(ZR s i - 65)+10) else -1
def Aay(s:ByteArray)(i n:Nat):Int:=if i+n > s.size then -1 else Ad0 s n i 0
def Ae6(s:ByteArray)(i:Nat):ByteArray×Nat:=
  if i≥s.size then(⟨#[]⟩,0) else
  if ZR s i==92 || (ZR s i==39 || ZR s i==34) then(s.extract i (i+1),1) else
  if ZR s i==110 then(⟨#[10]⟩,1) else
  if ZR s i==116 then(⟨#[9]⟩,1) else
  if ZR s i==120 then(if decide (Aay s (i+1) 2≥0) && decide (Aay s (i+1) 2<128) then(Utf8.encode (Aay s (i+1) 2),3) else(⟨#[]⟩,0)) else
  if ZR s i==117 then(if decide (Aay s (i+1) 4≥0) && (decide (Aay s (i+1) 4<55296) || decide (Aay s (i+1) 4 > 57343)) then(Utf8.encode (Aay s (i+1) 4),5) else(⟨#[]⟩,0)) else(⟨#[]⟩,0)
def AeV(t:ByteArray):Bool:=((EV t).length:Int)==1 && (runesBytes (EV t)).toList==t.toList
def Anl(s:ByteArray)(i:Nat):Nat→Nat→Nat
  | 0,_=>0
  | k+1,n=>if i+n≤s.size then(if AeV (s.extract i (i+n)) then n else Anl s i k (n+1)) else 0
def LV(s:ByteArray)(i:Nat):Nat:=Anl s i 4 1
def Afc(s:ByteArray):Nat→ByteArray→Nat→ByteArray×Nat×Int
  | 0,_,_=>(⟨#[]⟩,0,4)
  | f+1,acc,i=>
    if i<s.size then
      if ZR s i==ZR s 0 then(acc,i+1,0) else
      if ZR s i==92 then(if (Ae6 s (i+1)).2==0 then(⟨#[]⟩,0,4) else Afc s f (acc++(Ae6 s (i+1)).1) (i+1+(Ae6 s (i+1)).2)) else
      if decide (ZR s i<32) || (ZR s i==127 || LV s i==0) then(⟨#[]⟩,0,4) else Afc s f (acc++s.extract i (i+LV s i)) (i+LV s i)
    else(⟨#[]⟩,0,4)
def Adu(s:ByteArray):ByteArray×Nat×Int:=
  if s.toList==((⟨#[]⟩:ByteArray):ByteArray).toList then(⟨#[]⟩,0,4) else
  if ZR s 0 != 39 && ZR s 0 != 34 then(⟨#[]⟩,0,4) else Afc s s.size ⟨#[]⟩ 1
theorem Alg(s:ByteArray):∀ f acc i,(Afc s f acc i).2.1≤s.size
  | 0,_,_=>Nat.zero_le _
  | f+1,acc,i=>by
    unfold Afc
    split
    · split
      · simp only;omega
      · split
        · split
          · exact Nat.zero_le _
          · exact Alg s f _ _
        · split
          · exact Nat.zero_le _
          · exact Alg s f _ _
    · exact Nat.zero_le _
theorem AsG(s:ByteArray):(Adu s).2.1≤s.size:=by
  unfold Adu
  split
  · exact Nat.zero_le _
  · split
    · exact Nat.zero_le _
    · exact Alg _ _ _ _
theorem LH{w:World}(s:ByteArray){i:Nat}(hi:i<s.size){K:Int→World→Prop}(c:K (ZR s i) w):rn (Instr.index 9 (.string s) (.int .i64 (i:Int))) (QC .u8) K w:=by
  refine YZ (h:=QC .u8) (s[i].toNat:Int) (HU Tryz.underlying9 s i (by omega) (by omega)) ?_
  unfold ZR at c
  rw[dif_pos hi] at c
  exact c
theorem AaI{P:Program}{w:World}{t:TypeId}(hu:P.underlying t=some .string)(s:ByteArray)(i j:Nat)(h1:i≤j)(h2:j≤s.size) :
    (Instr.sliceAt t (.string s) (some (.int .i64 (i:Int))) (some (.int .i64 (j:Int))) none).run P w = .ok (.string (s.extract i j)) w:=by
  simp[Instr.sliceAt,underlying,hu,Instr.slice,Instr.sliceBounds,Instr.sliceBound,asIntOf,h1,h2]
theorem Am1{w:World}(s:ByteArray){i j:Nat}(h1:i≤j)(h2:j≤s.size){K:ByteArray→World→Prop}(c:K (s.extract i j) w):rn (Instr.sliceAt 9 (.string s) (some (.int .i64 (i:Int))) (some (.int .i64 (j:Int))) none) EB K w:=
  YZ (h:=EB) _ (AaI Tryz.underlying9 s i j h1 h2) c
theorem AiI(s:ByteArray)(i:Nat):0≤ZR s i∧ZR s i<256:=by
  unfold ZR
  split
  · rename_i h
    have:=s[i].toNat_lt
    omega
  · omega
theorem AjE{x:Int}(h0:0≤x)(h1:x<256):IntKind.u8.wrap x=x:=by
  simp only[IntKind.wrap,IntKind.bits,IntKind.signed]
  first | omega | (simp;omega)
theorem AsP{x:Int}(h0:0≤x)(h1:x<2147483648):IntKind.i32.wrap x=x:=by
  simp only[IntKind.wrap,IntKind.bits,IntKind.signed]
  first | omega | (simp;omega)
theorem AlY{w:World}(s:ByteArray)(hs:s.size≤65536)(i n:Nat)(hn:n≤4)(hi:i≤65537){K:Int→World→Prop}(c:K (Aay s i n) w):NS s (i:Int) (n:Int) K w:=by
  refine Ahz _ _ _ _ _ ?_
  unfold Afp
  unfold Aay at c
  have hw:IntKind.i64.wrap ((i:Int)+(n:Int))=((i+n:Nat):Int):=by rw[JY (by omega) (by omega)];omega
  rw[hw]
  refine JE (fun hb => ?_) (fun hb => ?_)
  · rw[if_pos (by simp at hb;omega)] at c
    exact Rt.mk (h:=QC .i64) _ c
  · have hle:i+n≤s.size:=by simp at hb;omega
    rw[if_neg (by omega)] at c
    refine YE (fun m x w'=>w'=w∧∃ k:Nat,x.2=k∧m+k=i+n∧i≤k∧0≤x.1∧x.1<16 ^ (k - i)∧Ad0 s (i+n - k) k x.1=Ad0 s n i 0) n (0,(i:Int)) rfl ⟨rfl,i,rfl,by omega,Nat.le_refl _,Int.le_refl 0,by simp,by rw[show i+n - i=n by omega]⟩ ?_
    rintro m ⟨v,y⟩ w' ⟨rfl,k,hk,hm,hik,h0,h1,hd⟩ again hag
    dsimp only at hk h0 h1 hd ⊢
    subst hk
    have hpow:(16:Int) ^ (k - i)≤65536:=by
      have:k - i≤4:=by omega
      have h4:(16:Nat) ^ (k - i)≤16 ^ 4:=Nat.pow_le_pow_right (by decide) this
      have:((16 ^ (k - i):Nat):Int)≤((16 ^ 4:Nat):Int):=by exact_mod_cast h4
      simpa using this
    refine JE (fun hb1 => ?_) (fun hb1 => ?_)
    · have hlt:k<i+n:=by simp at hb1;omega
      have hks:k<s.size:=by omega
      have hr:=AiI s k
      have hsucc:i+n - k=(i+n - (k+1))+1:=by omega
      rw[hsucc] at hd
      have hd':(if (decide (ZR s k≥48) && decide (ZR s k≤57))=true then Ad0 s (i+n - (k+1)) (k+1) (16 * v+(ZR s k - 48)) else
        if (decide (ZR s k≥97) && decide (ZR s k≤102))=true then Ad0 s (i+n - (k+1)) (k+1) (16 * v+(ZR s k - 97)+10) else
        if (decide (ZR s k≥65) && decide (ZR s k≤70))=true then Ad0 s (i+n - (k+1)) (k+1) (16 * v+(ZR s k - 65)+10) else -1)=Ad0 s n i 0:=hd
      clear hd
      have hpk:(16:Int) ^ (k+1 - i)=16 ^ (k - i) * 16:=by
        rw[show k+1 - i=(k - i)+1 by omega,Int.pow_succ]
      have hwk:IntKind.i64.wrap ((k:Int)+1)=((k+1:Nat):Int):=by rw[JY (by omega) (by omega)];omega
      refine LH s hks ?_
      generalize ZR s k=b at hr hd' ⊢
      have go:∀ {x:Int},0≤x→x≤15→Ad0 s (i+n - (k+1)) (k+1) (16 * v+x)=Ad0 s n i 0→again [.int .i64 (16 * v+x),.int .i64 ((k+1:Nat):Int)] w':=by
        intro x hx0 hx1 hd
        exact hag (m - 1) (16 * v+x,((k+1:Nat):Int)) w' (by omega) ⟨rfl,k+1,rfl,by omega,by omega,by simp only;omega,by simp only;rw[hpk];omega,hd⟩
      have hw16:IntKind.i64.wrap (16 * v)=16 * v:=JY (by omega) (by omega)
      have b2:(decide (b≥48) && decide (b≤57))=false→(decide (b≥97) && decide (b≤102))=false→CO (Rt (QC .i64) K) again v (k:Int) b w':=by
        intro hx hy
        rw[if_neg (ne_true_of_eq_false hx),if_neg (ne_true_of_eq_false hy)] at hd'
        unfold CO
        refine JE (fun hb2 => ?_) (fun hb2 => ?_)
        · refine JE (fun hb3 => ?_) (fun hb3 => ?_)
          · rw[if_pos (by rw[hb2,hb3];rfl)] at hd'
            simp at hb2 hb3
            unfold Abo
            rw[hw16,AjE (x:=b - 65) (by omega) (by omega),JY (x:=b - 65) (by omega) (by omega),JY (x:=16 * v+(b - 65)) (by omega) (by omega),JY (x:=16 * v+(b - 65)+10) (by omega) (by omega),hwk]
            rw[show 16 * v+(b - 65)+10=16 * v+(b - 55) by omega] at hd' ⊢
            exact go (by omega) (by omega) hd'
          · rw[if_neg (by rw[hb3];simp)] at hd'
            rw[← hd'] at c
            exact Rt.mk (h:=QC .i64) _ c
        · rw[if_neg (by rw[hb2];simp)] at hd'
          rw[← hd'] at c
          exact Rt.mk (h:=QC .i64) _ c
      have b0:(decide (b≥48) && decide (b≤57))=false→CN (Rt (QC .i64) K) again v (k:Int) b w':=by
        intro hx
        unfold CN
        refine JE (fun hb2 => ?_) (fun hb2 => ?_)
        · refine JE (fun hb3 => ?_) (fun hb3 => ?_)
          · rw[if_neg (ne_true_of_eq_false hx),if_pos (by rw[hb2,hb3];rfl)] at hd'
            simp at hb2 hb3
            unfold Abn
            rw[hw16,AjE (x:=b - 97) (by omega) (by omega),JY (x:=b - 97) (by omega) (by omega),JY (x:=16 * v+(b - 97)) (by omega) (by omega),JY (x:=16 * v+(b - 97)+10) (by omega) (by omega),hwk]
            rw[show 16 * v+(b - 97)+10=16 * v+(b - 87) by omega] at hd' ⊢
            exact go (by omega) (by omega) hd'
          · exact b2 hx (by rw[hb3];simp)
        · exact b2 hx (by rw[hb2];rfl)
      refine JE (fun hb2 => ?_) (fun hb2 => ?_)
      · refine JE (fun hb3 => ?_) (fun hb3 => ?_)
        · rw[if_pos (by rw[hb2,hb3];rfl)] at hd'
          simp at hb2 hb3
          rw[hw16,AjE (x:=b - 48) (by omega) (by omega),JY (x:=b - 48) (by omega) (by omega),JY (x:=16 * v+(b - 48)) (by omega) (by omega),hwk]
          exact go (by omega) (by omega) hd'
        · exact b0 (by rw[hb3];simp)
      · exact b0 (by rw[hb2];rfl)
    · have hk:k=i+n:=by simp at hb1;omega
      rw[hk,Nat.sub_self] at hd
      replace hd:v=Ad0 s n i 0:=hd
      rw[← hd] at c
      exact Rt.mk (h:=QC .i64) _ c
end Go.Proofs.YtjiagmjfnbljjaaGreatDoor
end
section
namespace Go.Proofs.YtjiagmjfnbljjaaGreatDoor
open Go
set_option maxHeartbeats 4000000
set_option linter.unusedVariables false
set_option linter.unusedSimpArgs false
theorem Aql{w:World}(s:ByteArray)(hs:s.size≤65536)(i:Nat)(hi:i≤65536){K:HI→World→Prop}(c:K ⟨(Ae6 s i).1,((Ae6 s i).2:Int)⟩ w):AaP s (i:Int) K w:=by
  refine AhA _ _ _ _ ?_
  unfold Afq
  unfold Ae6 at c
  have ret:∀ {t:ByteArray} {n:Int},K ⟨t,n⟩ w→Rt OA K (.tuple #[.string t,.int .i64 n]) w:=fun h=>Rt.mk (h:=OA) ⟨_,_⟩ h
  have hw:IntKind.i64.wrap ((i:Int)+1)=((i+1:Nat):Int):=by rw[JY (by omega) (by omega)];omega
  refine JE (fun hb => ?_) (fun hb => ?_)
  · rw[if_pos (by simp at hb;omega)] at c
    exact ret c
  have hlt:i<s.size:=by simp at hb;omega
  rw[if_neg (by omega)] at c
  refine LH s hlt ?_
  have hr:=AiI s i
  have hpow:∀ n:Nat,n≤4→Aay s (i+1) n<65536:=by
    intro n hn
    unfold Aay
    split
    · omega
    · have:∀ (m k:Nat) (v:Int),0≤v→Ad0 s m k v<(v+1) * 16 ^ m:=by
        intro m
        induction m with
        | zero=>intro k v h;simp[Ad0];omega
        | succ m ih=>
          intro k v h
          have hp:(0:Int)<16 ^ m:=by
            have:0<16 ^ m:=Nat.pos_of_ne_zero (by simp)
            exact_mod_cast this
          have hs:∀ x:Int,0≤x→x≤15→Ad0 s m (k+1) (16 * v+x)<(v+1) * 16 ^ (m+1):=by
            intro x h0 h1
            have h2:=ih (k+1) (16 * v+x) (by omega)
            have h3:(16 * v+x+1) * 16 ^ m≤(16 * (v+1)) * 16 ^ m:=Int.mul_le_mul_of_nonneg_right (by omega) (by omega)
            have h4:(16 * (v+1)) * (16:Int) ^ m=(v+1) * 16 ^ (m+1):=by
              rw[Int.pow_succ,Int.mul_comm 16 (v+1),Int.mul_assoc,Int.mul_comm 16]
            omega
          have hneg:(-1:Int)<(v+1) * 16 ^ (m+1):=by
            have:(0:Int)≤(v+1) * 16 ^ (m+1):=Int.mul_nonneg (by omega) (by rw[Int.pow_succ];omega)
            omega
          unfold Ad0
          split
          · rename_i hb
            simp only[Bool.and_eq_true,decide_eq_true_eq] at hb
            exact hs _ (by omega) (by omega)
          · split
            · rename_i hb
              simp only[Bool.and_eq_true,decide_eq_true_eq] at hb
              rw[show 16 * v+(ZR s k - 97)+10=16 * v+(ZR s k - 87) by omega]
              exact hs _ (by omega) (by omega)
            · split
              · rename_i hb
                simp only[Bool.and_eq_true,decide_eq_true_eq] at hb
                rw[show 16 * v+(ZR s k - 65)+10=16 * v+(ZR s k - 55) by omega]
                exact hs _ (by omega) (by omega)
              · exact hneg
      have h1:=this n (i+1) 0 (Int.le_refl 0)
      have h4:(16:Nat) ^ n≤16 ^ 4:=Nat.pow_le_pow_right (by decide) hn
      have h5:((16 ^ n:Nat):Int)≤((16 ^ 4:Nat):Int):=by exact_mod_cast h4
      have h6:((16 ^ n:Nat):Int)=(16:Int) ^ n:=by simp
      have h7:((16 ^ 4:Nat):Int)=65536:=by decide
      rw[h6,h7] at h5
      omega
  have enc:∀ {v:Int} {K2:ByteArray→World→Prop},0≤v→v<65536→K2 (Utf8.encode v) w→rn (convert 21 9 (.int .i32 (IntKind.i32.wrap v))) EB K2 w:=by
    intro v K2 h0 h1 k
    rw[AsP h0 (by omega)]
    exact YZ (h:=EB) _ (run_convert_int_string w _ _ _ _ (by kernel_rfl) Tryz.underlying9) k
  have k0:∀ x:Bool,x=(ZR s i==92 || (ZR s i==39 || ZR s i==34))→IH (Rt OA K) s (i:Int) (ZR s i) x w:=by
    intro x hx
    rw[← hx] at c
    unfold IH
    rw[hw]
    refine JE (fun hb => ?_) (fun hb => ?_)
    · rw[if_pos hb] at c
      exact Am1 s (by omega) (by omega) (ret c)
    rw[if_neg (ne_true_of_eq_false hb)] at c
    refine JE (fun hb => ?_) (fun hb => ?_)
    · rw[if_pos hb] at c;exact ret c
    rw[if_neg (ne_true_of_eq_false hb)] at c
    refine JE (fun hb => ?_) (fun hb => ?_)
    · rw[if_pos hb] at c;exact ret c
    rw[if_neg (ne_true_of_eq_false hb)] at c
    refine JE (fun hb => ?_) (fun hb => ?_)
    · rw[if_pos hb] at c
      refine AlY s hs (i+1) 2 (by decide) (by omega) ?_
      have hp:=hpow 2 (by decide)
      generalize Aay s (i+1) 2=v at c hp ⊢
      refine JE (fun hb1 => ?_) (fun hb1 => ?_)
      · refine JE (fun hb2 => ?_) (fun hb2 => ?_)
        · rw[if_pos (by rw[hb1,hb2];rfl)] at c
          exact enc (by simpa using hb1) hp (ret c)
        · rw[if_neg (by rw[hb2];simp)] at c;exact ret c
      · rw[if_neg (by rw[hb1];simp)] at c;exact ret c
    rw[if_neg (ne_true_of_eq_false hb)] at c
    refine JE (fun hb => ?_) (fun hb => ?_)
    · rw[if_pos hb] at c
      refine AlY s hs (i+1) 4 (by decide) (by omega) ?_
      have hp:=hpow 4 (by decide)
      generalize Aay s (i+1) 4=v at c hp ⊢
      refine JE (fun hb1 => ?_) (fun hb1 => ?_)
      · refine JE (fun hb2 => ?_) (fun hb2 => ?_)
        · rw[if_pos (by rw[hb1,hb2];rfl)] at c
          exact enc (by simpa using hb1) hp (ret c)
        · refine JE (fun hb3 => ?_) (fun hb3 => ?_)
          · rw[if_pos (by rw[hb1,hb3];simp)] at c
            exact enc (by simpa using hb1) hp (ret c)
          · rw[if_neg (by rw[hb2,hb3];simp)] at c;exact ret c
      · rw[if_neg (by rw[hb1];simp)] at c;exact ret c
    · rw[if_neg (ne_true_of_eq_false hb)] at c
      exact ret c
  refine JE (fun hb => ?_) (fun hb => ?_)
  · exact k0 _ (by rw[hb];rfl)
  · refine JE (fun hb2 => ?_) (fun hb2 => ?_)
    · exact k0 _ (by rw[hb,hb2];rfl)
    · exact k0 _ (by rw[hb,hb2];rfl)
theorem Asn{w:World}{l:Sl}{t:ByteArray}(hn:l.n=(EV t).length)(hs:OQ w l ((EV t).map (.int .i32 ·))){K:ByteArray→World→Prop}(k:K (runesBytes (EV t)) w):rn (convert 206 9 l.v) EB K w:=by
  obtain⟨hu,_,i,z,hi,hz⟩:=Am9
  have hu2:PP.underlying 21=some (.int .i32):=by kernel_rfl
  have hu3:PP.underlying 9=some .string:=by kernel_rfl
  have hrun:(convert 206 9 l.v).run PP w = .ok (.string (runesBytes (EV t))) w:=by
    cases ha:l.a with
    | none=>
      have h0:=hs.1 ha
      have hp:EV t = []:=List.length_eq_zero_iff.1 (by omega)
      have hl:l.v = .slice none 0 0:=by simp[Sl.v,ha,h0]
      rw[hl,run_convert_runes_nil w _ _ _ 0 0 hu hu2 hu3,hp]
      rfl
    | some a=>
      have hl:l.v = .slice (some a) l.n l.c:=by simp[Sl.v,ha]
      have:=run_convert_runes (P:=PP) w 206 9 21 a l.n l.c (EV t) (by omega) hu hu2 hu3 (fun j hj=>by
        refine hs.2 a ha j _ ?_
        rw[List.getElem?_map,List.getElem?_eq_getElem hj]
        simp[List.getD,List.getElem?_eq_getElem hj])
      rw[hl,this,hn,List.take_length]
  exact YZ (h:=EB) _ hrun k
theorem AmA(s:ByteArray)(i k n:Nat):Anl s i (k+1) n=if i+n≤s.size then(if AeV (s.extract i (i+n)) then n else Anl s i k (n+1)) else 0:=rfl
theorem AsO{w:World}(s:ByteArray)(hs:s.size≤65536)(i:Nat)(hi:i≤65536){K:Int→World→Prop}(c:∀ w',Ext w w'→K (LV s i:Int) w'):Ab7 s (i:Int) K w:=by
  refine Ai6 _ _ _ _ ?_
  unfold AgP
  unfold LV at c
  refine YE (fun m y w'=>Ext w w'∧∃ n:Nat,y=n∧m+n=5∧1≤n∧Anl s i m n=Anl s i 4 1) 4 (1:Int) rfl ⟨Ext.refl w,1,rfl,rfl,Nat.le_refl _,rfl⟩ ?_
  rintro m y w1 ⟨e1,n,rfl,hm,hn1,hw⟩ again hag
  cases m with
  | zero=>
    have hn5:n=5:=by omega
    refine ZH (by simp;omega) (Rt.mk (h:=QC .i64) _ ?_)
    have:=c w1 e1
    rw[← hw] at this;exact this
  | succ m=>
    rw[AmA s i m n] at hw
    have hwr:IntKind.i64.wrap ((i:Int)+(n:Int))=((i+n:Nat):Int):=by rw[JY (by omega) (by omega)];omega
    have hwn:IntKind.i64.wrap ((n:Int)+1)=((n+1:Nat):Int):=by rw[JY (by omega) (by omega)];omega
    refine VF (by simp;omega) ?_
    rw[hwr]
    refine JE (fun hb => ?_) (fun hb => ?_)
    · have hle:i+n≤s.size:=by simp at hb;omega
      rw[if_pos hle] at hw
      unfold AcQ
      rw[hwr,hwn]
      refine Am1 s (by omega) hle ?_
      have hsz:(s.extract i (i+n)).size≤65536:=by rw[HK s (by omega) hle];omega
      have hpart:∀ {w2:World} {K2:ByteArray→Prop},K2 (s.extract i (i+n))→rnS (fun _=>True) (Instr.sliceAt 9 (.string s) (some (.int .i64 (i:Int))) (some (.int .i64 ((i+n:Nat):Int))) none) EB K2:=fun k=>VQ (h:=EB) _ (fun w' _=>AaI Tryz.underlying9 s i (i+n) (by omega) hle) k
      generalize s.extract i (i+n)=t at hw hsz hpart ⊢
      refine Aes t (by omega) fun l w2 e2 hln hsrc w3 hw3 => ?_
      have e3:Ext w w3:=e1.trans (e2.trans hw3.fr)
      have next:∀ {w':World},Ext w w'→AeV t=false→again [.int .i64 ((n+1:Nat):Int)] w':=by
        intro w' e hf
        rw[if_neg (ne_true_of_eq_false hf)] at hw
        exact hag m ((n+1:Nat):Int) w' (Nat.lt_succ_self _) ⟨e,n+1,rfl,by omega,by omega,hw⟩
      refine JE (fun hb1 => ?_) (fun hb1 => ?_)
      · refine hpart (w2:=w3) ?_
        have hsrc3:OQ w3 l ((EV t).map (.int .i32 ·)):=⟨hsrc.1,fun a ha=>(hsrc.2 a ha).ext hw3.fr⟩
        refine Asn hln hsrc3 ⟨trivial,?_⟩
        rw[hln] at hb1
        refine JE (fun hb2 => ?_) (fun hb2 => ?_)
        · rw[if_pos (by unfold AeV;rw[hb1,hb2];rfl)] at hw
          refine Rt.mk (h:=QC .i64) _ ?_
          have:=c w3 e3
          rw[← hw] at this;exact this
        · exact next e3 (by unfold AeV;rw[hb2];simp)
      · rw[hln] at hb1
        exact⟨trivial,next e3 (by unfold AeV;rw[hb1];rfl)⟩
    · have hgt:¬ i+n≤s.size:=by simp at hb;omega
      rw[if_neg hgt] at hw
      refine Rt.mk (h:=QC .i64) _ ?_
      have:=c w1 e1
      rw[← hw] at this;exact this
theorem Ajl(a b:ByteArray):Lib.strCells (a++b)=Lib.strCells a++Lib.strCells b:=by
  simp[Lib.strCells]
theorem Apr{w:World}{B:Nat}{sl:Sl}{acc t:ByteArray}{K:Sl→World→Prop}(hown:Own w B 5 1 sl (Lib.strCells acc))(hB:B≤w.heap.size)(hl:sl.n+t.size≤4294967296)(k:∀ sl' w',sl'.n=sl.n+t.size→Own w' B 5 1 sl' (Lib.strCells (acc++t))→Fr (fun b=>B≤b) w w'→K sl' w') :
    rn (Builtin.append_ #[42,9] 42 #[sl.v,.string t]) hSl K w:=by
  obtain⟨hT1,hT2,i,z,hT3,hT4,hT5,hT6,hT7⟩:=Ana
  have hz:i.zero=some (.int .u8 0):=by
    have:(PP.info? 5).bind (·.zero)=some (.int .u8 0):=by kernel_rfl
    rw[hT3] at this;exact this
  obtain⟨v',w',hrun,hown',hg,_⟩:=Lib.run_append_own_string (P:=PP) w B 42 9 42 5 i hT1 Tryz.underlying9 hT3 hz hT4 hT5 sl.v sl.n _ hown t (by unfold maxLen;omega) (by omega) hB
  have hsh:∃ s':Sl,v'=s'.v∧s'.n=sl.n+t.size:=by
    rcases hown'.2 with⟨hv,hn'⟩ | ⟨g,cap,cur,hv,_⟩
    · exact⟨⟨none,0,0⟩,hv,by simp;omega⟩
    · exact⟨⟨some ⟨g,0,none⟩,sl.n+t.size,cap⟩,hv,rfl⟩
  obtain⟨s',rfl,hs'n⟩:=hsh
  refine YZ (h:=hSl) _ hrun (k s' w' hs'n ?_ ?_)
  · unfold Own;rw[hs'n,Ajl];exact hown'
  · refine⟨hg.os,hg.tape,hg.output,hg.size,fun b o hd hb => ?_⟩
    rw[hg.block b (ZC hb) fun he => ?_]
    · exact hb
    · have:=World.ownsRow.lt hown b he.symm
      exact hd this.1
theorem Atx{w:World}{B:Nat}{sl:Sl}{acc:ByteArray}{K:ByteArray→World→Prop}(hown:Own w B 5 1 sl (Lib.strCells acc))(k:K acc w):rn (convert 42 9 sl.v) EB K w:=by
  have hu:PP.underlying 42=some (.slice 5):=by kernel_rfl
  have hu2:PP.underlying 5=some (.int .u8):=by kernel_rfl
  have hu3:PP.underlying 9=some .string:=by kernel_rfl
  have hlen:=hown.len
  rw[Lib.strCells_length] at hlen
  refine YZ (h:=EB) acc ?_ k
  rcases hown.2 with⟨hv,hn⟩ | ⟨g,cap,cur,hv,hb,hg,hn,hm,hc,ht⟩
  · rw[hv,run_convert_bytes_nil w _ _ hu hu2 _ _ _ hu3]
    have:acc=⟨#[]⟩:=by
      apply ByteArray.ext
      apply Array.eq_empty_of_size_eq_zero
      show acc.size=0
      omega
    rw[this];rfl
  · have hb2:Lib.Bytes w g 0 acc:=by
      intro j hj
      have YV:=hown.cells
      simp only[Sl.v,Value.slice.injEq] at hv
      have:=YV.2 _ hv.1 j (.int .u8 (acc[j].toNat)) (by
        unfold Lib.strCells
        rw[List.getElem?_map]
        have:acc.data.toList[j]? = some acc[j]:=by simp[hj];rfl
        rw[this];rfl)
      rw[GQ] at this
      exact this
    have:=Lib.run_convert_whole (P:=PP) w 42 5 9 hu hu2 hu3 g 0 acc hb2 cap
    rw[hv,show sl.n=acc.size by omega]
    exact this
theorem Apv(s:ByteArray)(i:Nat):(Ae6 s i).1.size≤4∧(Ae6 s i).2≤5:=by
  have he:∀ v,(Utf8.encode v).size≤4:=encode_size_le
  have hz:(⟨#[]⟩:ByteArray).size=0:=rfl
  unfold Ae6
  split
  · exact⟨Nat.zero_le _,Nat.zero_le _⟩
  · split
    · rename_i h1 _
      refine⟨?_,by simp⟩
      rw[HK s (by omega) (by omega)];omega
    · split
      · exact⟨by decide,by decide⟩
      · split
        · exact⟨by decide,by decide⟩
        · split
          · split
            · exact⟨he _,by simp⟩
            · exact⟨by decide,by decide⟩
          · split
            · split
              · exact⟨he _,by simp⟩
              · exact⟨by decide,by decide⟩
            · exact⟨by decide,by decide⟩
theorem Ap5(s:ByteArray)(i:Nat):∀ k n,Anl s i k n=0∨(i+Anl s i k n≤s.size∧Anl s i k n<n+k)
  | 0,_=>.inl rfl
  | k+1,n=>by
    rw[AmA]
    split
    · split
      · rename_i h _;exact .inr ⟨h,by omega⟩
      · rcases Ap5 s i k (n+1) with h | h
        · exact .inl h
        · exact .inr ⟨h.1,by omega⟩
    · exact .inl rfl
theorem Aim(s:ByteArray)(f:Nat)(acc:ByteArray)(i:Nat):Afc s (f+1) acc i =
    if i<s.size then
      if ZR s i==ZR s 0 then(acc,i+1,0) else
      if ZR s i==92 then(if (Ae6 s (i+1)).2==0 then(⟨#[]⟩,0,4) else Afc s f (acc++(Ae6 s (i+1)).1) (i+1+(Ae6 s (i+1)).2)) else
      if decide (ZR s i<32) || (ZR s i==127 || LV s i==0) then(⟨#[]⟩,0,4) else Afc s f (acc++s.extract i (i+LV s i)) (i+LV s i)
    else(⟨#[]⟩,0,4):=rfl
theorem AsF(s:ByteArray)(acc:ByteArray)(i:Nat)(h:¬ i<s.size):∀ f,Afc s f acc i=(⟨#[]⟩,0,4)
  | 0=>rfl
  | f+1=>by rw[Aim,if_neg h]
theorem AhZ{w w1 w2:World}(h1:Ext w w1)(h2:Fr (fun b=>w.heap.size≤b) w1 w2):Ext w w2:=
  ⟨h2.os.trans h1.os,h2.tape.trans h1.tape,h2.output.trans h1.output,Nat.le_trans h1.size h2.size,fun b o hd hb=>h2.same b o (by have:=ZC hb;intro hx;omega) (h1.same b o hd hb)⟩
theorem AoA{w:World}(s:ByteArray)(hs:s.size≤65536){K:UP→World→Prop}(c:∀ w',Ext w w'→K ⟨(Adu s).1,((Adu s).2.1:Int),(Adu s).2.2⟩ w'):KT s K w:=by
  refine AgB _ _ _ ?_
  unfold AdS
  have ret:∀ {w':World} {t:ByteArray} {n m:Int},K ⟨t,n,m⟩ w'→Rt UX K (.tuple #[.string t,.int .i64 n,.int .i64 m]) w':=fun h=>Rt.mk (h:=UX) ⟨_,_,_⟩ h
  unfold Adu at c
  refine JE (fun hb => ?_) (fun hb => ?_)
  · rw[if_pos hb] at c
    exact ret (c w (Ext.refl w))
  rw[if_neg (ne_true_of_eq_false hb)] at c
  have hpos:0<s.size:=by
    rcases Nat.eq_zero_or_pos s.size with h | h
    · have:s=⟨#[]⟩:=by
        apply ByteArray.ext
        exact Array.eq_empty_of_size_eq_zero h
      rw[this] at hb;simp at hb
    · exact h
  have k0:(ZR s 0 != 39 && ZR s 0 != 34)=false→OO (Rt UX K) s w:=by
    intro hq
    rw[if_neg (ne_true_of_eq_false hq)] at c
    unfold OO
    refine YE (fun m (x:Sl×Int) w'=>Ext w w'∧∃ (acc:ByteArray) (i:Nat),x.2=i∧s.size≤m+i - 1∧1≤i∧i≤s.size+6∧acc.size≤4 * i∧x.1.n=acc.size∧Own w' w.heap.size 5 1 x.1 (Lib.strCells acc)∧Afc s m acc i=Afc s s.size ⟨#[]⟩ 1) s.size (⟨none,0,0⟩,1) rfl ⟨Ext.refl w,⟨#[]⟩,1,rfl,by omega,Nat.le_refl _,by omega,by decide,rfl,Own.nil _ _ _ _,rfl⟩ ?_
    rintro m ⟨sl,y⟩ w1 ⟨e1,acc,i,hy,hm,hi1,hi,hacc,hsl,hown,hu⟩ again hag
    dsimp only at hy hsl hown ⊢
    subst hy
    have hwi:IntKind.i64.wrap ((i:Int)+1)=((i+1:Nat):Int):=by rw[JY (by omega) (by omega)];omega
    have bad:∀ {w':World},Ext w w'→Afc s m acc i=(⟨#[]⟩,0,4)→Rt UX K (.tuple #[.string ⟨#[]⟩,.int .i64 0,.int .i64 4]) w':=by
      intro w' e h
      have:=c w' e
      rw[← hu,h] at this
      exact ret this
    refine JE (fun hlt => ?_) (fun hlt => ?_)
    · have hlt:i<s.size:=by simp at hlt;omega
      obtain⟨m,rfl⟩:∃ k,m=k+1:=⟨m - 1,by omega⟩
      rw[Aim,if_pos hlt] at hu
      have hbyte:∀ {j:Nat},j<s.size→∀ {K2:Int→Prop},K2 (ZR s j)→rnS (fun _=>True) (Instr.index 9 (.string s) (.int .i64 (j:Int))) (QC .u8) K2:=by
        intro j hj K2 k
        refine VQ (h:=QC .u8) (s[j].toNat:Int) (fun w' _=>HU Tryz.underlying9 s j (by omega) (by omega)) ?_
        unfold ZR at k
        rw[dif_pos hj] at k
        exact k
      intro w1' hd
      have e1:=e1.trans hd.fr
      have hown:=hown.ext hd.fr
      clear hd
      revert w1'
      intro w1 e1 hown
      refine hbyte hlt (hbyte hpos ?_)
      refine JE (fun hb1 => ?_) (fun hb1 => ?_)
      · rw[if_pos hb1] at hu
        refine Atx hown ?_
        rw[hwi]
        have:=c w1 e1
        rw[← hu] at this
        exact ret this
      · rw[if_neg (ne_true_of_eq_false hb1)] at hu
        refine LH s hlt ?_
        refine JE (fun hb2 => ?_) (fun hb2 => ?_)
        · rw[if_pos hb2] at hu
          rw[hwi]
          refine Aql s hs (i+1) (by omega) ?_
          have hle:=Apv s (i+1)
          generalize Ae6 s (i+1)=p at hu hle ⊢
          obtain⟨t,n⟩:=p
          dsimp only at hu hle ⊢
          refine JE (fun hb3 => ?_) (fun hb3 => ?_)
          · rw[if_pos (by simpa using hb3)] at hu
            have:=c w1 e1
            rw[← hu] at this
            exact ret this
          · rw[if_neg (by simpa using hb3)] at hu
            have hn:n≠0:=by simpa using hb3
            have hB:w.heap.size≤w1.heap.size:=e1.size
            refine Apr hown hB (by omega) fun sl' w2 hsl' hown' hf => ?_
            have hwn:IntKind.i64.wrap (((i+1:Nat):Int)+(n:Int))=((i+1+n:Nat):Int):=by rw[JY (by omega) (by omega)];omega
            rw[hwn]
            refine hag m (sl',((i+1+n:Nat):Int)) w2 (Nat.lt_succ_self _) ⟨AhZ e1 hf,acc++t,i+1+n,rfl,by omega,by omega,by omega,?_,?_,hown',hu⟩
            · rw[ByteArray.size_append];omega
            · rw[ByteArray.size_append];dsimp only;omega
        · rw[if_neg (ne_true_of_eq_false hb2)] at hu
          refine AsO s hs i (by omega) fun w2 e2 => ?_
          have hle:LV s i=0∨(i+LV s i≤s.size∧LV s i<1+4):=Ap5 s i 4 1
          have e12:Ext w w2:=e1.trans e2
          have stop:(decide (ZR s i<32) || (ZR s i==127 || LV s i==0))=true→Rt UX K (.tuple #[.string ⟨#[]⟩,.int .i64 0,.int .i64 4]) w2:=by
            intro h
            rw[if_pos h] at hu
            have:=c w2 e12
            rw[← hu] at this
            exact ret this
          refine LH s hlt ?_
          refine JE (fun hb3=>stop (by rw[hb3];rfl)) (fun hb3 => ?_)
          refine LH s hlt ?_
          refine JE (fun hb4=>stop (by rw[hb4];simp)) (fun hb4 => ?_)
          refine JE (fun hb5=>stop (by simp at hb5;rw[hb5];simp)) (fun hb5 => ?_)
          have hn:LV s i≠0:=by simpa using hb5
          rw[if_neg (by rw[hb3,hb4];simpa using hn)] at hu
          generalize LV s i=n at *
          have hle:i+n≤s.size∧n<1+4:=hle.resolve_left hn
          unfold Aav
          have hwn:IntKind.i64.wrap ((i:Int)+(n:Int))=((i+n:Nat):Int):=by rw[JY (by omega) (by omega)];omega
          rw[hwn]
          refine Am1 s (by omega) hle.1 ?_
          have hsz:(s.extract i (i+n)).size=n:=by rw[HK s (by omega) hle.1];omega
          have hB:w.heap.size≤w2.heap.size:=e12.size
          refine Apr (hown.ext e2) hB (by omega) fun sl' w3 hsl' hown' hf => ?_
          refine hag m (sl',((i+n:Nat):Int)) w3 (Nat.lt_succ_self _) ⟨AhZ e12 hf,acc++s.extract i (i+n),i+n,rfl,by omega,by omega,by omega,?_,?_,hown',hu⟩
          · rw[ByteArray.size_append];omega
          · rw[ByteArray.size_append];dsimp only;omega
    · have hlt:¬ i<s.size:=by simp at hlt;omega
      exact bad e1 (AsF s acc i hlt m)
  refine LH s hpos ?_
  refine JE (fun hb1 => ?_) (fun hb1 => ?_)
  · refine LH s hpos ?_
    refine JE (fun hb2 => ?_) (fun hb2 => ?_)
    · rw[if_pos (by rw[hb1,hb2];rfl)] at c
      exact ret (c w (Ext.refl w))
    · exact k0 (by rw[hb2];simp)
  · exact k0 (by rw[hb1];rfl)
theorem AjB:Aj1 Adu:=⟨fun _ t _ h c=>AoA t h c,AsG⟩
end Go.Proofs.YtjiagmjfnbljjaaGreatDoor
end
section
namespace Go.Proofs.YtjiagmjfnbljjaaGreatDoor
open Go
set_option maxHeartbeats 4000000
set_option linter.unusedVariables false
set_option linter.unusedSimpArgs false
structure Ara(unq:ByteArray→ByteArray×Nat×Int):Prop where
  size:∀ t,(unq t).1.size≤(unq t).2.1
  pos:∀ t,(unq t).2.2=0→0<(unq t).2.1
theorem ArA(s:ByteArray)(i:Nat):(Ae6 s i).1.size≤(Ae6 s i).2+1:=by
  have h:=Apv s i
  have he:∀ v,(Utf8.encode v).size≤4:=encode_size_le
  unfold Ae6 at h ⊢
  split
  · exact Nat.zero_le _
  · split
    · simp only[ByteArray.size_extract];omega
    · split
      · decide
      · split
        · decide
        · split
          · split
            · exact he _
            · decide
          · split
            · split
              · have:=he (Aay s (i+1) 4);simp only;omega
              · decide
            · decide
theorem Apf(s:ByteArray):∀ f acc i,acc.size≤i→(Afc s f acc i).1.size≤(Afc s f acc i).2.1∧((Afc s f acc i).2.2=0→0<(Afc s f acc i).2.1)
  | 0,acc,i,_=>⟨by show(⟨#[]⟩:ByteArray).size≤0;decide,fun h=>by cases h⟩
  | f+1,acc,i,h=>by
    have z:(⟨#[]⟩:ByteArray).size≤0:=by decide
    rw[Aim]
    split
    · split
      · exact⟨by simp only;omega,fun _=>by simp only;omega⟩
      · split
        · split
          · exact⟨z,fun h=>by cases h⟩
          · refine Apf s f _ _ ?_
            have:=ArA s (i+1)
            rw[ByteArray.size_append];omega
        · split
          · exact⟨z,fun h=>by cases h⟩
          · refine Apf s f _ _ ?_
            rw[ByteArray.size_append,ByteArray.size_extract];omega
    · exact⟨z,fun h=>by cases h⟩
theorem Apg:Ara Adu:=by
  have z:(⟨#[]⟩:ByteArray).size≤0:=by decide
  have h:∀ t,(Adu t).1.size≤(Adu t).2.1∧((Adu t).2.2=0→0<(Adu t).2.1):=by
    intro t
    unfold Adu
    split
    · exact⟨z,fun h=>by cases h⟩
    · split
      · exact⟨z,fun h=>by cases h⟩
      · exact Apf t _ _ _ (by show 0≤1;omega)
  exact⟨fun t=>(h t).1,fun t=>(h t).2⟩
def KR(l:List Tk):Nat:=(l.map fun t=>t.Text.size).sum
theorem BU(s:LS)(k:Int)(t:ByteArray)(a:Int):KR (s.add k t a).toks=KR s.toks+t.size:=by
  unfold KR LS.add
  simp
theorem An2(T:List Tk):Alz T T.length=400 * T.length+KR T:=by
  unfold Alz KR
  rw[List.take_length]
  induction T with
  | nil=>rfl
  | cons t l ih=>
    simp only[List.map_cons,List.sum_cons,List.length_cons] at ih ⊢
    omega
theorem AcN(S:ByteArray):∀ f a,a≤OW S f a
  | 0,a=>Nat.le_refl _
  | f+1,a=>by
    unfold OW
    split
    · have:=AcN S f (a+1);omega
    · exact Nat.le_refl _
theorem Aga(S:ByteArray):∀ f a,a≤HM S f a
  | 0,a=>Nat.le_refl _
  | f+1,a=>by
    unfold HM
    split
    · have:=Aga S f (a+1);omega
    · exact Nat.le_refl _
theorem Alk(S:ByteArray){a:Nat}(ha:a<S.size)(h:ldC (ZR S a)=true):a<OW S (S.size - a) a:=by
  obtain⟨f,hf⟩:∃ f,S.size - a=f+1:=⟨S.size - a - 1,by omega⟩
  rw[hf]
  unfold OW
  rw[if_pos h]
  have:=AcN S f (a+1);omega
theorem AkA(S:ByteArray){a:Nat}(ha:a<S.size)(h:(ZR S a != 10)=true):a<HM S (S.size - a) a:=by
  obtain⟨f,hf⟩:∃ f,S.size - a=f+1:=⟨S.size - a - 1,by omega⟩
  rw[hf]
  unfold HM
  rw[if_pos h]
  have:=Aga S f (a+1);omega
theorem Aom{unq:ByteArray→ByteArray×Nat×Int}(hu:Ara unq){S:ByteArray}{a:Nat}(ha:a<S.size){s:LS}(hc:s.code=0):KR (UU unq S a s).2.toks+a≤KR s.toks+(UU unq S a s).1∧((UU unq S a s).2.code=0→a<(UU unq S a s).1):=by
  have hul:(S.extract a S.size).size=S.size - a:=HK S (by omega) (Nat.le_refl _)
  have hu1:=hu.size (S.extract a S.size)
  have hu2:=hu.pos (S.extract a S.size)
  have hw:=AcN S (S.size - a) a
  unfold UU
  dsimp only
  split
  · rename_i hl
    have:=Alk S ha (by unfold ldC;rw[hl];rfl)
    refine⟨?_,fun _=>this⟩
    rw[BU,ByteArray.size_extract];omega
  split
  · rename_i hl
    have:=Alk S ha (by unfold ldC;rw[hl];simp)
    refine⟨?_,fun _=>this⟩
    rw[BU,ByteArray.size_extract]
    split
    · omega
    · show KR s.toks+_+a≤_;omega
  split
  · refine⟨?_,fun h => ?_⟩
    · rw[BU]
      split
      · show KR s.toks+_+a≤_;omega
      · omega
    · split at h
      · cases h
      · rename_i hz
        have:=hu2 (by simpa using hz)
        simp only;omega
  split
  · exact⟨Nat.le_refl _,fun h=>by cases h⟩
  rename_i hne
  have hpos:0<(DG S a AI).size:=by
    rcases Nat.eq_zero_or_pos (DG S a AI).size with h0 | h0
    · have:DG S a AI=⟨#[]⟩:=by
        apply ByteArray.ext
        exact Array.eq_empty_of_size_eq_zero h0
      rw[this] at hne
      simp at hne
    · exact h0
  split
  · refine⟨?_,fun _=>by simp only;omega⟩
    rw[BU]
    split
    · show KR s.toks+_+a≤_;omega
    · show KR s.toks+_+a≤_;omega
  split
  · refine⟨?_,fun _=>by simp only;omega⟩
    rw[BU]
    split
    · show KR s.toks+_+a≤_;omega
    · omega
  · refine⟨?_,fun _=>by simp only;omega⟩
    rw[BU];simp only;omega
theorem Ar8(n a:Int):∀ (ds:List Int) (s:LS),KR (Aa2 n a ds s).toks=KR s.toks
  | [],s=>rfl
  | d :: ds,s=>by
    unfold Aa2
    split
    · rw[Ar8 n a ds,BU];rfl
    · split<;>rfl
theorem Arg(n a:Int)(s:LS):KR (EF n a s).toks=KR s.toks:=by
  unfold EF
  split
  · split
    · rfl
    · rw[BU];rfl
  · exact Ar8 _ _ _ _
theorem AbC{unq:ByteArray→ByteArray×Nat×Int}(hu:Aj1 unq)(ht:Ara unq)(S:ByteArray):∀ (f a n:Nat) (head:Bool) (s:LS),S.size<f+a→a≤S.size→s.code=0→Ado s→∃ s',Acu unq S f a n head s=some s'∧KR s'.toks+a≤KR s.toks+S.size
  | 0,a,n,head,s,h1,h2,_,_=>by omega
  | f+1,a,n,head,s,h1,h2,hc,hok=>by
    unfold Acu
    split
    · rename_i ha
      split
      · rename_i hb
        have:=AkA S ha (by simp only[beq_iff_eq] at hb;rw[hb];rfl)
        have hle:=Agb S (S.size - a) a
        obtain⟨s',h3,h4⟩:=AbC hu ht S f (HM S (S.size - a) a) n head s (by omega) (by omega) hc hok
        exact⟨s',h3,by omega⟩
      split
      · obtain⟨s',h3,h4⟩:=AbC hu ht S f (a+1) (n+1) head s (by omega) (by omega) hc hok
        exact⟨s',h3,by omega⟩
      split
      · have hx:(if s.opn==0 && !head then s.add 6 (⟨#[]⟩:ByteArray) a else s).code=0∧Ado (if s.opn==0 && !head then s.add 6 (⟨#[]⟩:ByteArray) a else s)∧KR (if s.opn==0 && !head then s.add 6 (⟨#[]⟩:ByteArray) a else s).toks=KR s.toks:=by
          split
          · exact⟨hc,⟨hok.deep,hok.dlen,hok.o0,hok.o1⟩,by rw[BU];rfl⟩
          · exact⟨hc,hok,rfl⟩
        obtain⟨s',h3,h4⟩:=AbC hu ht S f (a+1) 0 (if s.opn==0 then true else head) _ (by omega) (by omega) hx.1 hx.2.1
        exact⟨s',h3,by omega⟩
      · have hx:Ado (if head then EF n a s else s)∧KR (if head then EF n a s else s).toks=KR s.toks:=by
          split
          · exact⟨(Ack hok (by omega) a).1,Arg _ _ _⟩
          · exact⟨hok,rfl⟩
        dsimp only
        generalize (if head=true then EF (n:Int) (a:Int) s else s)=s1 at *
        split
        · rename_i hc1
          have hc1:s1.code=0:=by simpa using hc1
          obtain⟨t1,t2⟩:=Aom ht ha hc1
          obtain⟨t3,t4,t5⟩:=AcL hu ha hx.1 hc1
          split
          · exact⟨_,rfl,by omega⟩
          · rename_i hc2
            have hc2:(UU unq S a s1).2.code=0:=by simpa using hc2
            have t2:=t2 hc2
            obtain⟨s',h3,h4⟩:=AbC hu ht S f (UU unq S a s1).1 n false (UU unq S a s1).2 (by omega) t4 hc2 (t5 hc2)
            exact⟨s',h3,by omega⟩
        · exact⟨_,rfl,by omega⟩
    · exact⟨s,rfl,by omega⟩
theorem AlX(a:Int):∀ (k:Nat) (s:LS),KR (LI a k s).toks=KR s.toks
  | 0,s=>rfl
  | k+1,s=>by
    unfold LI
    rw[AlX a k,BU];rfl
theorem AiV{unq:ByteArray→ByteArray×Nat×Int}(hu:Aj1 unq)(ht:Ara unq)(S:ByteArray):∃ out,AaJ unq S=some out∧KR out.1≤65536:=by
  unfold AaJ
  split
  · exact⟨_,rfl,by show 0≤65536;omega⟩
  · rename_i hsz
    obtain⟨s,h1,h2⟩:=AbC hu ht S (S.size+1) 0 0 true ⟨[],[0],0,0,0⟩ (by omega) (Nat.zero_le _) rfl ⟨⟨[],rfl⟩,by simp,by simp,by simp⟩
    rw[h1]
    refine⟨_,rfl,?_⟩
    have h2:KR s.toks≤0+S.size:=by simpa [KR] using h2
    dsimp only
    split
    · show 0≤65536;omega
    · show KR (Aei S s).toks≤_
      unfold Aei
      dsimp only
      rw[BU,AlX]
      have hz:((⟨#[]⟩:ByteArray):ByteArray).size=0:=rfl
      split
      · rw[BU];omega
      · omega
end Go.Proofs.YtjiagmjfnbljjaaGreatDoor
end
