/- Rows of rows of whole numbers in lexicographic order: plain laws. -/
import Derived.Test.YtnkgglghjohdjaaGreatR19
import Derived.Sort.Statements
import Derived.Lib.Slices
set_option linter.unusedVariables false
set_option linter.unusedSimpArgs false
namespace Go.Proofs.YtnkgglghjohdjaaGreat.R
open Go.Sort
def lexZ : List Int → List Int → Int
 | [], [] => 0
 | [], _ :: _ => -1
 | _ :: _, [] => 1
 | a :: x, b :: y => if a < b then -1 else if a > b then 1 else lexZ x y
def lexB (x y : List Int) : Bool := decide (lexZ x y < 0)
theorem lexZ_refl : ∀ x, lexZ x x = 0
 | [] => rfl
 | a :: x => by unfold lexZ; rw [if_neg (by omega), if_neg (by omega)]; exact lexZ_refl x
theorem lexZ_anti : ∀ x y, lexZ y x = - lexZ x y
 | [], [] => rfl
 | [], _ :: _ => rfl
 | _ :: _, [] => rfl
 | a :: x, b :: y => by
  unfold lexZ
  by_cases h1 : a < b
  ·simp [h1, show ¬ b < a by omega]
  ·by_cases h2 : b < a
   ·simp [h1, h2]
   ·simp [h1, h2]; exact lexZ_anti x y
theorem lexZ_zero : ∀ x y, lexZ x y = 0 → x = y
 | [], [], _ => rfl
 | [], _ :: _, h => by simp [lexZ] at h
 | _ :: _, [], h => by simp [lexZ] at h
 | a :: x, b :: y, h => by
  unfold lexZ at h
  split at h
  ·omega
  ·split at h
   ·omega
   ·rw [show a = b by omega, lexZ_zero x y h]
theorem lexZ_trans : ∀ x y z, lexZ x y < 0 → lexZ y z < 0 → lexZ x z < 0
 | [], [], z, h, _ => by simp [lexZ] at h
 | [], _ :: _, [], _, h => by simp [lexZ] at h
 | [], _ :: _, _ :: _, _, _ => by simp [lexZ]
 | _ :: _, [], _, h, _ => by simp [lexZ] at h
 | _ :: _, _ :: _, [], _, h => by simp [lexZ] at h
 | a :: x, b :: y, c :: z, h, k => by
  unfold lexZ at h k ⊢
  by_cases h1 : a < b
  ·by_cases k1 : b < c
   ·rw [if_pos (by omega)]; decide
   ·rw [if_neg k1] at k
    by_cases k2 : b > c
    ·rw [if_pos k2] at k; omega
    ·rw [if_pos (by omega)]; decide
  ·rw [if_neg h1] at h
   by_cases h2 : a > b
   ·rw [if_pos h2] at h; omega
   ·rw [if_neg h2] at h
    by_cases k1 : b < c
    ·rw [if_pos (by omega)]; decide
    ·rw [if_neg k1] at k
     by_cases k2 : b > c
     ·rw [if_pos k2] at k; omega
     ·rw [if_neg k2] at k
      rw [if_neg (by omega), if_neg (by omega)]
      exact lexZ_trans x y z h k
theorem lexB_total {x y : List Int} (h : lexB x y = false) (k : lexB y x = false) : x = y := by
 unfold lexB at h k
 have h := of_decide_eq_false h
 have k := of_decide_eq_false k
 have := lexZ_anti x y
 exact lexZ_zero x y (by omega)
theorem lexB_swo : SWO lexB := by
 have tr : ∀ x y z, lexB x y = true → lexB y z = true → lexB x z = true := fun x y z h k =>
  decide_eq_true (lexZ_trans x y z (of_decide_eq_true h) (of_decide_eq_true k))
 refine ⟨fun x => ?_, tr, fun x y z h k => ?_⟩
 ·unfold lexB; rw [lexZ_refl]; rfl
 ·cases hz : lexB x z with
  | false => rfl
  | true =>
   cases hy : lexB y x with
   | true => rw [tr y x z hy hz] at k; cases k
   | false => rw [lexB_total h hy] at hz; rw [hz] at k; cases k
def sortL (l : List (List Int)) : List (List Int) := l.mergeSort fun x y => !lexB y x
theorem sortL_len (l : List (List Int)) : (sortL l).length = l.length := List.length_mergeSort l
theorem sortL_perm (l : List (List Int)) : (sortL l).Perm l := List.mergeSort_perm l _
theorem sortL_sorted (l : List (List Int)) : (sortL l).Pairwise fun x y => (!lexB y x) = true := by
 refine List.pairwise_mergeSort (le := fun x y => !lexB y x) (fun a b c h k => ?_) (fun a b => ?_) l
 ·have h := (Bool.not_eq_true' _).mp h
  have k := (Bool.not_eq_true' _).mp k
  exact (Bool.not_eq_true' _).mpr (lexB_swo.ntrans c b a k h)
 ·cases h : lexB b a with
  | false => rfl
  | true =>
   cases k : lexB a b with
   | false => rfl
   | true => have := lexB_swo.trans b a b h k; rw [lexB_swo.irrefl] at this; cases this
theorem sortL_unique : ∀ {l m : List (List Int)}, l.Perm m → l.Pairwise (fun x y => (!lexB y x) = true) → m.Pairwise (fun x y => (!lexB y x) = true) → l = m
 | l, m, hp, hl, hm => List.Perm.eq_of_pairwise (fun a b _ _ h k => lexB_total ((Bool.not_eq_true' _).mp k) ((Bool.not_eq_true' _).mp h)) hl hm hp
theorem sortL_eq {l m : List (List Int)} (hp : m.Perm l) (hm : m.Pairwise (fun x y => (!lexB y x) = true)) : m = sortL l :=
 sortL_unique (hp.trans (sortL_perm l).symm) hm (sortL_sorted l)
theorem sorted_places {l : List (List Int)} {d : Array Nat} (hp : PermIn 0 l.length (Array.range l.length) d) (hs : SortedIn (fun i j => lexB (l.getD i []) (l.getD j [])) 0 l.length d) :
  d.toList.map (fun i => l.getD i []) = sortL l := by
 have hsz : d.size = l.length := by have := hp.1; simpa using this
 apply sortL_eq
 ·have h := hp.2.2
  have e1 : d.extract 0 l.length = d := by rw [← hsz]; simp
  have e2 : (Array.range l.length).extract 0 l.length = Array.range l.length := by simp
  rw [e1, e2] at h
  have h2 := h.map (fun i => l.getD i [])
  refine h2.trans (List.Perm.of_eq ?_)
  apply List.ext_getElem
  ·simp
  ·intro i h1 h3
   simp at h1
   simp [h1]
 ·rw [List.pairwise_iff_getElem]
  intro i j hi hj hij
  simp only [List.length_map, Array.length_toList] at hi hj
  have := hs i j (Nat.zero_le _) hij (by omega)
  simp only [List.getElem_map, Array.getElem_toList]
  rw [getElem!_pos d j hj, getElem!_pos d i hi] at this
  have this : lexB (l.getD d[j] []) (l.getD d[i] []) = false := this
  rw [this]; rfl
end Go.Proofs.YtnkgglghjohdjaaGreat.R
