/- R, part 20: small laws for plain proofs. -/
import Derived.Test.YtpegolnoadpjhaaR19
set_option linter.unusedVariables false
set_option linter.unusedSimpArgs false
namespace Go.Proofs.Ytpegolnoadpjhaa.R

theorem joinK_val {X R : Type} (j : X → Option R) (x : X) : joinK j (some x) = j x := rfl
theorem bind_val {A R : Type} (a : A) (f : A → Option R) : Option.bind (some a) f = f a := rfl
theorem inB_t {i : Int} {n : Nat} (h0 : 0 ≤ i) (h : i < (n : Int)) : inB i n = true := decide_eq_true ⟨h0, h⟩
theorem ilt_t {x y : Int} (h : x < y) : ilt x y = true := decide_eq_true h
theorem ilt_f {x y : Int} (h : ¬ x < y) : ilt x y = false := decide_eq_false h
theorem ile_t {x y : Int} (h : x ≤ y) : ile x y = true := decide_eq_true h
theorem ile_f {x y : Int} (h : ¬ x ≤ y) : ile x y = false := decide_eq_false h
theorem ieq_t {x y : Int} (h : x = y) : ieq x y = true := decide_eq_true h
theorem ieq_f {x y : Int} (h : ¬ x = y) : ieq x y = false := decide_eq_false h
theorem makeB_t {x : Int} (h0 : 0 ≤ x) (h : x ≤ 1073741824) : makeB x x = true := decide_eq_true ⟨h0, by unfold lim; exact h, rfl⟩
theorem capB_t {n m : Nat} (h : n + m ≤ 1073741824) : capB n m = true := decide_eq_true (by unfold lim; exact h)
theorem slB_t {a b : Int} {n : Nat} (h0 : 0 ≤ a) (h1 : a ≤ b) (h2 : b ≤ (n : Int)) : slB a b n = true := decide_eq_true ⟨h0, h1, h2⟩
theorem wrap_in {x : Int} (h : In64 x) : IntKind.wrap .i64 x = x := IntWalk.i64_in x h
theorem iadd64 {x y : Int} (h : In64 (x + y)) : iadd .i64 x y = x + y := wrap_in h
theorem isub64 {x y : Int} (h : In64 (x - y)) : isub .i64 x y = x - y := wrap_in h
theorem imul64 {x y : Int} (h : In64 (x * y)) : imul .i64 x y = x * y := wrap_in h
theorem rdA_nat {A : Type} {z : A} {l : List A} {i : Nat} (h : i < l.length) : rdA z l (i : Int) = l[i] := by
  unfold rdA
  rw [Int.toNat_natCast]
  simp [List.getD, List.getElem?_eq_getElem h]
theorem rdA_some {A : Type} {z x : A} {l : List A} {i : Nat} (h : l[i]? = some x) : rdA z l (i : Int) = x := by
  unfold rdA
  rw [Int.toNat_natCast]
  simp [List.getD, h]
theorem beq_t {x : Bool} : beq_ x true = x := by cases x <;> rfl
theorem beq_f {x : Bool} : beq_ x false = !x := by cases x <;> rfl
theorem ilt_not {x y : Int} : ilt x y = !ile y x := by
  by_cases h : x < y
  · rw [ilt_t h, ile_f (by omega)]; rfl
  · rw [ilt_f h, ile_t (by omega)]; rfl
/-- 1, 2, .. -/
def upTo (n : Nat) : List Int := (List.range n).map fun (i : Nat) => (i : Int) + 1
theorem upTo_len {n : Nat} : (upTo n).length = n := by simp [upTo]
theorem upTo_get {n i : Nat} (h : i < n) : (upTo n)[i]? = some ((i : Int) + 1) := by simp [upTo, h]
end Go.Proofs.Ytpegolnoadpjhaa.R
