/- What comes to an answer; the draws in that form. -/
import Derived.Test.YtkkefapclohicaaDoorR20
import Derived.Test.YtkkefapclohicaaDoorG3
set_option linter.unusedVariables false
set_option linter.unusedSimpArgs false
namespace Go.Proofs.YtkkefapclohicaaDoor.R
/-- It comes to an answer, and Q tells of it. -/
def Tot {A : Type} (Q : A → Prop) (o : Option A) : Prop := ∃ a, o = some a ∧ Q a
section
variable {A B X : Type} {Q Q' : A → Prop} {P : B → Prop}
theorem Tot.ret {a : A} (h : Q a) : Tot Q (some a) := ⟨a, rfl, h⟩
theorem Tot.of {o : Option A} {a : A} (e : o = some a) (h : Q a) : Tot Q o := ⟨a, e, h⟩
theorem Tot.bind {o : Option A} {f : A → Option B} (h : Tot Q o) (k : ∀ a, Q a → Tot P (f a)) : Tot P (Option.bind o f) := by
  obtain ⟨a, e, hq⟩ := h
  rw [e, bind_val]
  exact k a hq
theorem Tot.cond {c : Bool} {x y : Option A} (h : c = true → Tot Q x) (k : c = false → Tot Q y) : Tot Q (cond c x y) := by
  cases c with
  | true => exact h rfl
  | false => exact k rfl
theorem Tot.yes {c : Bool} {x y : Option A} (hc : c = true) (h : Tot Q x) : Tot Q (_root_.cond c x y) := by
  subst hc; exact h
theorem Tot.no {c : Bool} {x y : Option A} (hc : c = false) (h : Tot Q y) : Tot Q (_root_.cond c x y) := by
  subst hc; exact h
theorem Tot.join {j : X → Option A} {x : X} (h : Tot Q (j x)) : Tot Q (joinK j (some x)) := h
theorem Tot.mono {o : Option A} (h : Tot Q o) (k : ∀ a, Q a → Q' a) : Tot Q' o := by
  obtain ⟨a, e, hq⟩ := h
  exact ⟨a, e, k a hq⟩
theorem Tot.agree {x y : Option A} {a : A} (h1 : x = some a) (h2 : y = some a) (h : Q a) : Tot Q (_root_.Go.Proofs.YtkkefapclohicaaDoor.R.agree x y) := by
  rw [h1, h2, agree_self]; exact Tot.ret h
theorem Tot.self {x y : Option A} (e : x = y) (h : Tot Q x) : Tot Q (_root_.Go.Proofs.YtkkefapclohicaaDoor.R.agree x y) := by
  rw [← e, agree_self]; exact h
end

end Go.Proofs.YtkkefapclohicaaDoor.R
