/- Lemmas for the statement proved in the last of these texts: part 17 of 25. Conditions: none. -/
import Derived.Test.YtjiagmjfnbljjaaGreatDoorGak
import Derived.Test.YtjiagmjfnbljjaaGreatDoorGap
section
namespace Go.Proofs.YtjiagmjfnbljjaaGreatDoor
open Go
set_option maxHeartbeats 4000000
set_option linter.unusedVariables false
def LOk(N:Nat)(s:LS)(a:Nat):Prop:=s.toks.Pairwise (fun x y=>x.At≤y.At)∧∀ t∈s.toks,0≤t.At∧t.At≤a∧t.At≤N
section
variable{N:Nat}{s:LS}{a b:Nat}
theorem LOk.mono(h:LOk N s a)(hb:a≤b):LOk N s b:=⟨h.1,fun t ht=>by have:=h.2 t ht;omega⟩
theorem LOk.of{s':LS}(h:LOk N s a)(e:s'.toks=s.toks):LOk N s' a:=by unfold LOk;rw[e];exact h
theorem LOk.add(h:LOk N s a)(hN:a≤N)(k:Int)(t:ByteArray):LOk N (s.add k t a) a:=by
  refine⟨List.pairwise_append.2 ⟨h.1,List.pairwise_singleton _ _,fun x hx y hy => ?_⟩,fun x hx => ?_⟩
  · rw[List.mem_singleton] at hy
    subst hy
    exact(h.2 x hx).2.1
  · rcases List.mem_append.1 hx with hx | hx
    · exact h.2 x hx
    · rw[List.mem_singleton] at hx
      subst hx
      exact⟨by show 0≤(a:Int);omega,Int.le_refl _,by show(a:Int)≤N;omega⟩
theorem LOk.pop(hN:a≤N)(n:Int):∀ (l:List Int) {s:LS},LOk N s a→LOk N (Aa2 n a l s) a
  | [],s,h=>h
  | d :: ds,s,h=>by
    unfold Aa2
    split
    · exact LOk.pop hN n ds ((h.of (s':=s.setDeep ds) rfl).add hN 8 (⟨#[]⟩:ByteArray))
    · split
      · exact h.of rfl
      · exact h
theorem LOk.begin(h:LOk N s a)(hN:a≤N)(n:Int):LOk N (EF n a s) a:=by
  unfold EF
  split
  · split
    · exact h.of rfl
    · exact(h.of (s':=s.setDeep (n :: s.deep)) rfl).add hN 7 (⟨#[]⟩:ByteArray)
  · exact LOk.pop hN n _ h
theorem LOk.token(h:LOk N s a)(hN:a≤N)(unq:ByteArray→ByteArray×Nat×Int)(S:ByteArray):LOk N (UU unq S a s).2 a∧a≤(UU unq S a s).1:=by
  have hw:=AcN S (S.size - a) a
  have hf:∀ c:Int,LOk N (s.fault c a) a:=fun c=>h.of rfl
  unfold UU
  dsimp only
  split
  · exact⟨h.add hN _ _,hw⟩
  · split
    · refine⟨?_,hw⟩
      split
      · exact h.add hN _ _
      · exact(hf _).add hN _ _
    · split
      · refine⟨?_,Nat.le_add_right _ _⟩
        split
        · exact(hf _).add hN _ _
        · exact h.add hN _ _
      · split
        · exact⟨hf _,Nat.le_refl _⟩
        · split
          · refine⟨?_,Nat.le_add_right _ _⟩
            refine LOk.add ?_ hN _ _
            split
            · exact(hf 107).of rfl
            · exact h.of rfl
          · split
            · refine⟨?_,Nat.le_add_right _ _⟩
              refine LOk.add ?_ hN _ _
              split
              · exact h.of rfl
              · exact h
            · exact⟨h.add hN _ _,Nat.le_add_right _ _⟩
theorem AnR(S:ByteArray)(a:Nat):a≤HM S (S.size - a) a:=Aga S _ a
theorem Akz(unq:ByteArray→ByteArray×Nat×Int)(S:ByteArray):∀ (f a n:Nat) (head:Bool) (s s':LS),LOk S.size s a→Acu unq S f a n head s=some s'→∃ b,LOk S.size s' b
  | 0,_,_,_,_,_,_,h=>by unfold Acu at h;cases h
  | f+1,a,n,head,s,s',hs,h=>by
    unfold Acu at h
    split at h
    · rename_i ha
      have hN:a≤S.size:=Nat.le_of_lt ha
      split at h
      · exact Akz unq S f _ n head s s' (hs.mono (AnR S a)) h
      · split at h
        · exact Akz unq S f _ _ head s s' (hs.mono (Nat.le_succ a)) h
        · split at h
          · refine Akz unq S f (a+1) _ _ _ s' ?_ h
            refine LOk.mono (a:=a) ?_ (Nat.le_succ a)
            split
            · exact hs.add hN _ _
            · exact hs
          · have h1:LOk S.size (if head then EF n a s else s) a:=by
              split
              · exact hs.begin hN _
              · exact hs
            dsimp only at h
            generalize (if head=true then EF n a s else s)=s1 at h h1
            obtain⟨h2,h3⟩:=h1.token hN unq S
            split at h
            · split at h
              · cases h;exact⟨a,h2⟩
              · exact Akz unq S f _ n false _ s' (h2.mono h3) h
            · cases h;exact⟨a,h1⟩
    · cases h
      exact⟨a,hs⟩
theorem LOk.ded{N:Nat}:∀ (k:Nat) {s:LS},LOk N s N→LOk N (LI N k s) N
  | 0,s,h=>h
  | k+1,s,h=>by unfold LI;exact LOk.ded k (h.add (Nat.le_refl _) 8 (⟨#[]⟩:ByteArray))
theorem AqA{S:ByteArray}{s:LS}{b:Nat}(h:LOk S.size s b):LOk S.size (Aei S s) S.size:=by
  have h0:LOk S.size s S.size:=⟨h.1,fun t ht=>by have:=h.2 t ht;omega⟩
  unfold Aei
  dsimp only
  refine LOk.add (LOk.ded _ ?_) (Nat.le_refl _) 9 (⟨#[]⟩:ByteArray)
  split
  · exact h0.add (Nat.le_refl _) 6 (⟨#[]⟩:ByteArray)
  · exact h0
end
theorem LOk.tk{N:Nat}{s:LS}{a:Nat}(h:LOk N s a):Aoz s.toks N:=by
  refine⟨fun t ht=>⟨(h.2 t ht).1,(h.2 t ht).2.2⟩,by omega,fun i j x y hij hx hy => ?_⟩
  rcases Nat.lt_or_ge i j with hlt | hge
  · have h1:=List.pairwise_iff_getElem.1 h.1
    obtain⟨hi,rfl⟩:=List.getElem?_eq_some_iff.1 hx
    obtain⟨hj,rfl⟩:=List.getElem?_eq_some_iff.1 hy
    exact h1 i j hi hj hlt
  · have:i=j:=by omega
    subst this
    rw[hx] at hy;cases hy
    exact Int.le_refl _
theorem AqX(S:ByteArray):(VV S).1.All (Rg S.size)∧(VV S).1.dec.Pairwise (· ≤ ·):=by
  have e0:(nod 0 0 (⟨#[]⟩:ByteArray) []).All (Rg S.size)∧(nod 0 0 (⟨#[]⟩:ByteArray) []).dec.Pairwise (· ≤ ·):=⟨ZV ⟨Int.le_refl _,by omega⟩ QU,by rw[AH rfl QY];exact .nil⟩
  unfold VV
  split
  · exact e0
  · rename_i q hq
    split
    · exact e0
    · split
      · exact e0
      · rename_i hc _ o ho
        refine Asf (T:=q.1) ?_ ho
        unfold AaJ at hq
        split at hq
        · cases hq
          exact⟨nofun,by omega,fun i j x y _ hx=>by simp at hx⟩
        · cases hl:Acu Adu S (S.size+1) 0 0 true ⟨[],[0],0,0,0⟩ with
          | none=>rw[hl] at hq;cases hq
          | some s=>
            rw[hl] at hq
            simp only[Option.map_some,Option.some.injEq] at hq
            obtain⟨b,hb⟩:=Akz Adu S _ 0 0 true _ s ⟨.nil,fun t ht=>by cases ht⟩ hl
            split at hq
            · rw[← hq]
              exact⟨nofun,by omega,fun i j x y _ hx=>by simp at hx⟩
            · rw[← hq]
              exact(AqA hb).tk
end Go.Proofs.YtjiagmjfnbljjaaGreatDoor
end
