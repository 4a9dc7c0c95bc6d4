/- The draws of a class with a score. -/
import Derived.Test.YtfpelgmocnolbaaDK8
import Derived.Test.YtfpelgmocnolbaaDS8
import Derived.Test.YtfpelgmocnolbaaCO8
import Derived.Test.YtfpelgmocnolbaaPT8
set_option linter.unusedVariables false
set_option linter.unusedSimpArgs false
namespace Go.Proofs.Ytfpelgmocnolbaa.R
theorem f30_is (a : List Instr) (l : List Note) (ha : a.length ≤ 1073741824) (hi : ∀ x ∈ a, x.1.length ≤ 1073741824) (hl : l.length ≤ 1073741824) : f30 a l = some ((goodC a && goodS l, ()), ()) := by
  unfold f30
  rw [f43_is a ha hi, bind_val, f53_is l hl]
  simp only [bind_val, joinK_val, f30_r1, beq_t]
  cases goodC a <;> rfl
/-- Of bounded size. -/
structure Small (a : List Instr) (l : List Note) : Prop where
  cls : a.length ≤ 7
  ins : ∀ x ∈ a, x.1.length ≤ 21
  len : l.length ≤ 31
section
variable {code : List Int}
theorem all_r6 {a : List Instr} {l : List Note} (hs : Small a l) (ha : goodC a = true) (hl : goodS l = true) (x : List Int × Int × Unit) (t : Bool) (hx : t = true → goodI (x.1, x.2.1) = true) : Tot (fun r => Small r.1.1 r.1.2.1) (f5_r6 a l x t) := by
  unfold f5_r6
  obtain ⟨g1, g2, g3⟩ := goodC_of ha
  refine Tot.cond (fun hb => ?_) (fun _ => ?_)
  · obtain ⟨o, o1, o2, _⟩ := part_is (hx hb) hl
    rw [o2, bind_val]
    exact Tot.ret ⟨hs.cls, hs.ins, by show o.length ≤ 31; omega⟩
  · have h0 : 0 < a.length := by omega
    have e : rdA ([], 0) a 0 = a[0] := rdA_nat (z := (([], 0) : List Int × Int)) h0
    obtain ⟨o, o1, o2, _⟩ := part_is (g1 _ (List.getElem_mem h0)) hl
    refine Tot.yes (inB_t (by omega) (by omega)) ?_
    rw [e, o2, bind_val]
    exact Tot.ret ⟨hs.cls, hs.ins, by show o.length ≤ 31; omega⟩
theorem all_r4 (hc : CodeOk code) {K : Nat} {c : Cur} (hK : K ≤ 1099511000000) (h : CurOk code K c) {a : List Instr} {l : List Note} (hs : Small a l) (t : Bool) (ht : t = true → goodC a = true ∧ goodS l = true) : Tot (fun r => Small r.1.1 r.1.2.1) (f5_r4 c a l t) := by
  unfold f5_r4
  refine Tot.cond (fun hb => ?_) (fun _ => Tot.ret hs)
  obtain ⟨ga, gl⟩ := ht hb
  obtain ⟨g1, g2, g3⟩ := goodC_of ga
  have hcl := hs.cls
  cases a with
  | nil => simp at g2
  | cons x a' =>
    have e := f32_is (c := x :: a') (by omega) (fun y hy => by have := hs.ins y hy; omega) rfl
    rw [e]
    by_cases hz : (comI (x :: a') x).1 = []
    · rw [ieq_t (by rw [hz]; rfl), cond_true, bind_val]
      exact Tot.no rfl (Tot.join (all_r6 hs ga gl _ false (by simp)))
    · have hn : ¬ (((comI (x :: a') x).1.length : Nat) : Int) = 0 := fun h => hz (List.eq_nil_of_length_eq_zero (by omega))
      rw [ieq_f hn, cond_false, bind_val]
      refine Tot.yes rfl (Tot.bind (f31_t hc (by omega) h 2) fun r hr => Tot.join (all_r6 hs ga gl _ _ fun _ => ?_))
      exact comI_good rfl g1 hz
theorem f5_t (hc : CodeOk code) : Tot (fun r => Small r.1.1 r.1.2.1) (f5 code) := by
  unfold f5
  refine Tot.bind (f28_t hc (by omega) (cur_new code)) fun r hr => ?_
  obtain ⟨l, c', e, hl, h'⟩ := f29_is hc (by omega) hr.2
  have e : f29 (r.2.1.1, r.2.1.2.1, r.2.1.2.2.1, ()) = some ((l, ()), (c', ())) := e
  rw [e, bind_val]
  have h7 := hr.1.1
  have hs : Small r.1.1 l := ⟨hr.1.1, hr.1.2, hl⟩
  dsimp only
  rw [f30_is r.1.1 l (by omega) (fun x hx => by have := hr.1.2 x hx; omega) (by omega), bind_val]
  refine Tot.cond (fun hb => Tot.bind (f31_t hc (by omega) h' 4) fun r4 hr4 => Tot.join ?_) (fun _ => Tot.join ?_)
  · refine all_r4 hc (by omega) hr4.2 hs _ fun _ => ?_
    have hb : beq_ (goodC r.1.1 && goodS l) true = true := hb
    rw [beq_t, Bool.and_eq_true] at hb
    exact hb
  · exact all_r4 hc (by omega) h' hs false (by simp)
theorem f42_t (hc : CodeOk code) : Tot (fun r => r.1.1.length ≤ 7 ∧ ∀ x ∈ r.1.1, x.1.length ≤ 21) (f42 code) := by
  unfold f42
  exact Tot.bind (f28_t hc (by omega) (cur_new code)) fun r hr => Tot.ret hr.1
theorem f21_t (hc : CodeOk code) : Tot (fun r => r.1.1.length ≤ 7 ∧ ∀ x ∈ r.1.1, x.1.length ≤ 21) (f21 code) := by
  unfold f21
  exact Tot.bind (f42_t hc) fun r hr => Tot.ret hr
end
end Go.Proofs.Ytfpelgmocnolbaa.R
