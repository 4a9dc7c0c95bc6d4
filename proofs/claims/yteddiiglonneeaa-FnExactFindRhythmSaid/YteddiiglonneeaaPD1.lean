/- A set built up in order: the reference's way, and the library's cut. -/
import Derived.Test.YteddiiglonneeaaR20
import Derived.Test.YteddiiglonneeaaG1
import Derived.Test.YteddiiglonneeaaSX
set_option linter.unusedVariables false
set_option linter.unusedSimpArgs false
namespace Go.Proofs.Yteddiiglonneeaa.R
/-- At the end, if it is not there. -/
def putD (l : List Int) (n : Int) : List Int := if n ∈ l then l else l ++ [n]
theorem putD_in {l : List Int} {n : Int} (h : n ∈ l) : putD l n = l := if_pos h
theorem putD_out {l : List Int} {n : Int} (h : n ∉ l) : putD l n = l ++ [n] := if_neg h
theorem putD_mem {l : List Int} {n a : Int} : a ∈ putD l n ↔ a ∈ l ∨ a = n := by
  unfold putD
  by_cases h : n ∈ l
  · rw [if_pos h]
    exact ⟨.inl, fun h' => h'.elim id fun e => e ▸ h⟩
  · rw [if_neg h]; simp
theorem foldD_mem {a : Int} : ∀ (L o : List Int), a ∈ L.foldl putD o ↔ a ∈ o ∨ a ∈ L
  | [], o => by simp
  | x :: L, o => by
    rw [List.foldl_cons, foldD_mem L, putD_mem, List.mem_cons, or_assoc]
theorem putD_rise {l : List Int} {n : Int} (h : l.Pairwise (· < ·)) (hn : ∀ a ∈ l, a ≤ n) : (putD l n).Pairwise (· < ·) := by
  unfold putD
  by_cases hin : n ∈ l
  · rw [if_pos hin]; exact h
  · rw [if_neg hin, List.pairwise_append]
    refine ⟨h, List.pairwise_singleton _ _, fun a ha b hb => ?_⟩
    have hb : b = n := by simpa using hb
    subst hb
    have h1 := hn a ha
    have h2 : a ≠ b := fun e => hin (e ▸ ha)
    omega
theorem putD_len (l : List Int) (n : Int) : (putD l n).length ≤ l.length + 1 := by
  unfold putD
  split <;> simp
theorem foldD_len : ∀ (L o : List Int), (L.foldl putD o).length ≤ o.length + L.length
  | [], o => by simp
  | x :: L, o => by
    have h1 := foldD_len L (putD o x)
    have h2 := putD_len o x
    simp only [List.foldl_cons, List.length_cons]
    omega
theorem comp_take (z : List Int) (hs : z.Pairwise (· ≤ ·)) : ∀ m, m ≤ z.length → Lib.compactUpTo z.toArray m = (z.take m).foldl putD []
  | 0, _ => rfl
  | m + 1, hm => by
    have hml : m < z.length := by omega
    have e1 : z.toArray[m]! = z[m] := by simp [hml]
    rw [Lib.compactUpTo_succ, comp_take z hs m (by omega), List.take_succ_eq_append_getElem hml, List.foldl_append, e1]
    show _ = putD _ z[m]
    have hle : ∀ a ∈ z.take m, ∃ i, ∃ h : i < m, a = z[i] := fun a ha => by
      obtain ⟨i, hi, rfl⟩ := List.getElem_of_mem ha
      have : i < m := by simp at hi; omega
      exact ⟨i, this, by rw [List.getElem_take]⟩
    by_cases hin : z[m] ∈ (z.take m).foldl putD []
    · rw [putD_in hin]
      have h1 : z[m] ∈ z.take m := by
        have := (foldD_mem (z.take m) []).1 hin
        simpa using this
      obtain ⟨i, hi, e⟩ := hle _ h1
      have h0 : 0 < m := by omega
      have e2 : z.toArray[m - 1]! = z[m - 1] := by simp [show m - 1 < z.length by omega]
      have h2 : z[i] ≤ z[m - 1] := by
        by_cases hc : i = m - 1
        · subst hc; exact Int.le_refl _
        · exact List.pairwise_iff_getElem.1 hs i (m - 1) (by omega) (by omega) (by omega)
      have h3 : z[m - 1] ≤ z[m] := List.pairwise_iff_getElem.1 hs (m - 1) m (by omega) hml (by omega)
      have h4 : z[m] = z[m - 1] := by omega
      have hk : Lib.keeps z.toArray m = false := Lib.keeps_neg h0 (by rw [e1, e2]; exact h4)
      rw [hk]; simp
    · rw [putD_out hin]
      have hk : Lib.keeps z.toArray m = true := by
        unfold Lib.keeps
        refine decide_eq_true ?_
        by_cases h0 : m = 0
        · exact .inl h0
        · refine .inr fun he => hin ?_
          have e2 : z.toArray[m - 1]! = z[m - 1] := by simp [show m - 1 < z.length by omega]
          rw [e1, e2] at he
          rw [he]
          refine (foldD_mem (z.take m) []).2 (.inr ?_)
          exact List.mem_iff_getElem.2 ⟨m - 1, by simp; omega, by rw [List.getElem_take]⟩
      rw [hk]; simp
theorem setZ_is {z : List Int} (hs : z.Pairwise (· ≤ ·)) : setZ z = z.foldl putD [] := by
  have e : sortZ z = z := List.mergeSort_of_pairwise (hs.imp fun h => by simpa using h)
  unfold setZ
  rw [e]
  have := comp_take z hs z.length (Nat.le_refl _)
  rw [List.take_length] at this
  exact this
theorem putT_at {l : List Int} {n : Int} (hl : l.length ≤ 1073741000) (hn : ∀ a ∈ l, a ≤ n) : ∀ (m k : Nat), l.length - k = m → k ≤ l.length → (∀ j (h : j < l.length), j < k → l[j] < n) → f14t_l0 (l, n, (k : Int), ()) = some (putD l n) := by
  intro m
  induction m with
  | zero =>
    intro k hm hk hlt
    have e : k = l.length := by omega
    have hin : n ∉ l := fun h => by
      obtain ⟨i, hi, e⟩ := List.getElem_of_mem h
      have := hlt i hi (by omega)
      omega
    have d0 : List.drop (Int.toNat 0) (List.take (Int.toNat (k : Int)) l) = l := by simp [e]
    have d1 : List.drop (Int.toNat (k : Int)) (List.take (Int.toNat ((l.length : Nat) : Int)) l) = [] := by simp [e]
    have a0 : ∀ q : List Int, @List.append Int [] q = q := fun q => rfl
    have a1 : @List.append Int (@List.append Int l [n]) [] = l ++ [n] := by show (l ++ [n]) ++ [] = _; simp
    have hf : beq_ (ilt (k : Int) ((l.length : Nat) : Int)) true = false := by rw [ilt_f (by omega)]; rfl
    rw [f14t_l0_eq]
    unfold f14t_b0
    rw [hf, cond_false, joinK_val]
    dsimp only
    unfold f14t_r2
    rw [cond_false, hf, cond_false, joinK_val]
    dsimp only
    unfold f14t_r4
    rw [cond_false, d0, d1, a0, a1, slB_t (by omega) (by omega) (by omega), cond_true, capB_t (by omega), cond_true, capB_t (by simp; omega), cond_true, slB_t (by omega) (by omega) (by omega), cond_true, capB_t (by show (l ++ [n]).length + 0 ≤ _; simp; omega), cond_true]
    unfold putD
    rw [if_neg hin]
  | succ m ih =>
    intro k hm hk hlt
    have hkl : k < l.length := by omega
    have e : rdA 0 l (k : Int) = l[k] := rdA_nat hkl
    have ht : beq_ (ilt (k : Int) ((l.length : Nat) : Int)) true = true := by rw [ilt_t (by omega)]; rfl
    have hle := hn _ (List.getElem_mem hkl)
    rw [f14t_l0_eq]
    unfold f14t_b0
    rw [ht, cond_true, inB_t (by omega) (by omega), cond_true, joinK_val, e]
    dsimp only
    unfold f14t_r2
    by_cases h : l[k] < n
    · rw [ilt_t h, cond_true, joinK_val, iadd64 (by unfold In64; omega), show (k : Int) + 1 = ((k + 1 : Nat) : Int) by omega]
      refine ih (k + 1) (by omega) (by omega) fun j hj hjk => ?_
      by_cases hc : j = k
      · subst hc; exact h
      · exact hlt j hj (by omega)
    · have he : l[k] = n := by omega
      rw [ilt_f h, cond_false, ht, cond_true, inB_t (by omega) (by omega), cond_true, joinK_val, e]
      dsimp only
      unfold f14t_r4
      rw [ieq_t he, cond_true]
      unfold putD
      rw [if_pos (he ▸ List.getElem_mem hkl)]
theorem putT_is {l : List Int} {n : Int} (hl : l.length ≤ 1073741000) (hn : ∀ a ∈ l, a ≤ n) : f14t l n = some (putD l n) := by
  unfold f14t
  rw [joinK_val]
  exact putT_at hl hn _ 0 rfl (Nat.zero_le _) (fun j h h' => by omega)
end Go.Proofs.Yteddiiglonneeaa.R
