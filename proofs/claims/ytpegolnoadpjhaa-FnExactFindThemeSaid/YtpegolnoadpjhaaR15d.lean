/- R, part 15d: regions that draw their order and hold operations that change memory. -/
import Derived.Test.YtpegolnoadpjhaaR15
set_option linter.unusedVariables false
set_option linter.unusedSectionVars false
set_option linter.unusedSimpArgs false
namespace Go.Proofs.Ytpegolnoadpjhaa.R
open Go.RowKit
variable [Door]

section
variable {P : Program} {ops : Array Oper} {C : World → World → Prop} {hl : List Nat} {Q : Exit → Act → World → Prop}

/-- Whatever order is picked from here on: what is not 'hard' is quiet, and what follows is asked in every world of the class. -/
def wpAnyM (P : Program) (ops : Array Oper) (C : World → World → Prop) (hl : List Nat) (Q : Exit → Act → World → Prop) : Nat → Array Bool → Act → World → Prop
  | 0, listed, a, w => Region.ready .any ops listed = [] ∧ Q .normal a w
  | fuel + 1, listed, a, w =>
    (Region.ready .any ops listed = [] → Q .normal a w) ∧
    ∀ i ∈ Region.ready .any ops listed, match memNat i hl with
      | true => wpOp P ops Q i (fun a' w1 => ∀ w', C w1 w' → wpAnyM P ops C hl Q fuel (listed.setIfInBounds i true) a' w') a w
      | false => qOp P ops (C w) i (fun a' => ∀ w', C w w' → wpAnyM P ops C hl Q fuel (listed.setIfInBounds i true) a' w') a

theorem wpAny_of_M (hr : ∀ w, C w w) : ∀ (fuel : Nat) (listed : Array Bool) (a : Act) (w : World), wpAnyM P ops C hl Q fuel listed a w → wpAny P .any ops Q fuel listed a w
  | 0, _, _, _, h => h
  | fuel + 1, listed, a, w, h => ⟨h.1, fun i hi => by
    have h2 := h.2 i hi
    split at h2
    · exact wpOp_mono (fun a' w1 h' => wpAny_of_M hr fuel _ a' w1 (h' w1 (hr w1))) h2
    · exact wpOp_of_qOp (C := C w) (hr w) (fun a' w' hw' h' => wpAny_of_M hr fuel _ a' w' (h' w' hw')) h2⟩

/-- 'qOp_put' with any predicate that lasts. -/
theorem qOp_putY {Cw : World → Prop} {Y : Act → Prop} {j : Nat} {oi oj : Oper} {v : Value} (hj : ops[j]? = some oj) (hap : oi.apart ops oj = true)
    (hsj : ∀ cs b, oj.op ≠ .select cs b) (keep : ∀ a u, Y a → Y (a.put oj.dst u)) {K : Act → Prop} {a : Act} (hy : Y a) (h : qOp P ops Cw j K (a.put oi.dst v)) :
    qOp P ops Cw j (fun a' => Y a' ∧ K (a'.put oi.dst v)) a := by
  obtain ⟨h1, h2, h3⟩ := Oper.apart_spec hap
  unfold qOp at *
  simp only [hj] at *
  rw [wanted_put oj a oi.dst v h1] at h
  split
  · rename_i hw
    simp only [hw, if_true] at h
    obtain ⟨u, hu, hn⟩ := h
    refine ⟨u, fun w hw' => ?_, keep a u hy, by rw [← Act.put_comm a v u h2]; exact hn⟩
    have := hu w hw'
    unfold Oper.quietAt at *
    rwa [execOp_put oj hsj a oi.dst v h1] at this
  · rename_i hw
    simp only [hw] at h
    exact ⟨keep a _ hy, by rw [← Act.put_comm a v undef h2]; exact h⟩

theorem Yields.yieldsIn {Cw : World → Prop} {o : Oper} {v : Value} {a : Act} (h : Yields P ops o v a) : YieldsIn P ops Cw o v a :=
  h.imp (fun ⟨hw, hv⟩ => ⟨hw, fun w _ => by unfold Oper.quietAt; rw [hv w]; exact ⟨rfl, rfl⟩⟩) id

/-- It yields v in every world of the class, and leaves a world of that world's class. -/
def YT (P : Program) (ops : Array Oper) (C : World → World → Prop) (w : World) (o : Oper) (v : Value) (a : Act) : Prop :=
  (Region.wanted o (yielded ops a.tmps) = true ∧ ∀ w', C w w' → o.quietAt P a (C w') w' v) ∨ (Region.wanted o (yielded ops a.tmps) = false ∧ v = undef)

theorem YT.yieldsIn {w : World} {o : Oper} {v : Value} {a : Act} (ht : ∀ w w' w'', C w w' → C w' w'' → C w w'') (h : YT P ops C w o v a) : YieldsIn P ops (C w) o v a :=
  h.imp (fun ⟨hw, hv⟩ => ⟨hw, fun w' hw' => quietAt_sub (fun w'' h2 => ht _ _ _ hw' h2) (hv w' hw')⟩) id
theorem YT.sub {w w1 : World} {o : Oper} {v : Value} {a : Act} (ht : ∀ w w' w'', C w w' → C w' w'' → C w w'') (h : YT P ops C w o v a) (hc : C w w1) : YT P ops C w1 o v a :=
  h.imp (fun ⟨hw, hv⟩ => ⟨hw, fun w' hw' => hv w' (ht _ _ _ hc hw')⟩) id
theorem YT.put {w : World} {oi oj : Oper} {v : Value} {a : Act} (hap : oi.apart ops oj = true) (hsi : ∀ cs b, oi.op ≠ .select cs b) (u : Value) (h : YT P ops C w oi v a) : YT P ops C w oi v (a.put oj.dst u) := by
  obtain ⟨_, _, h3⟩ := Oper.apart_spec hap
  unfold YT Oper.quietAt at *
  rw [execOp_put oi hsi a oj.dst u h3, wanted_put oi a oj.dst u h3]
  exact h
theorem Yields.put {oi oj : Oper} {v : Value} {a : Act} (hap : oi.apart ops oj = true) (hsi : ∀ cs b, oi.op ≠ .select cs b) (u : Value) (h : Yields P ops oi v a) : Yields P ops oi v (a.put oj.dst u) := by
  obtain ⟨_, _, h3⟩ := Oper.apart_spec hap
  exact h.of_same (execOp_put oi hsi a oj.dst u h3) (wanted_put oi a oj.dst u h3)

def freeFor (ops : Array Oper) (oi : Oper) (i : Nat) (listed : Array Bool) : Prop :=
  ∀ j oj, ops[j]? = some oj → j ≠ i → listed.getD j true = false → (∀ e ∈ oj.after, Region.binds .any e = true → e.on ≠ i) → oi.apart ops oj = true

theorem freeFor_set {oi : Oper} {i j : Nat} {listed : Array Bool} (hjun : listed.getD j true = false) (h : freeFor ops oi i listed) : freeFor ops oi i (listed.setIfInBounds j true) := fun k ok hk hki hun hno => by
  refine h k ok hk hki ?_ hno
  by_cases hjk : j = k
  · subst hjk; exact hjun
  · rw [getD_set_ne true hjk] at hun; exact hun

theorem not_waits {i : Nat} {oj : Oper} {listed : Array Bool} (h0 : listed.getD i true = false) (hall : ∀ e ∈ oj.after, Region.binds .any e = true → listed.getD e.on false = true) : ∀ e ∈ oj.after, Region.binds .any e = true → e.on ≠ i := fun e he hb heq => by
  have h1 := hall e he hb
  rw [heq] at h1
  rcases Nat.lt_or_ge i listed.size with h' | h'
  · simp [h'] at h0 h1; rw [h0] at h1; cases h1
  · simp [Array.getElem?_eq_none h'] at h1

/-- **What yields in whatever world may be taken first.** -/
theorem firstFree (hrf : ∀ w, C w w) (ht : ∀ w w' w'', C w w' → C w' w'' → C w w'') {i : Nat} {oi : Oper} {v : Value} (hi : ops[i]? = some oi) (hni : memNat i hl = false) (hsel : ∀ (j : Nat) (o : Oper) cs b, ops[j]? = some o → o.op ≠ .select cs b)
    (hQ : ∀ c a w, ¬ Q (.panic c) a w) : ∀ (fuel : Nat) (listed : Array Bool) (a : Act) (w : World), freeFor ops oi i listed → i ∈ Region.ready .any ops listed → Yields P ops oi v a →
      (∀ w', C w w' → wpAnyM P ops C hl Q fuel (listed.setIfInBounds i true) (a.put oi.dst v) w') → wpAnyM P ops C hl Q (fuel + 1) listed a w := by
  intro fuel
  have own : ∀ (fuel : Nat) (listed : Array Bool) (a : Act) (w : World), Yields P ops oi v a → (∀ w', C w w' → wpAnyM P ops C hl Q fuel (listed.setIfInBounds i true) (a.put oi.dst v) w') →
      qOp P ops (C w) i (fun a' => ∀ w', C w w' → wpAnyM P ops C hl Q fuel (listed.setIfInBounds i true) a' w') a := fun fuel listed a w hy H => (Yields.yieldsIn hy).qOp hi H
  induction fuel with
  | zero =>
    intro listed a w _ hr hy H
    refine ⟨fun h => (by rw [h] at hr; cases hr), fun j hj => ?_⟩
    by_cases hji : j = i
    · subst hji; rw [hni]; exact own 0 listed a w hy H
    · have := ready_mono hj hji
      rw [(H w (hrf w)).1] at this
      cases this
  | succ fuel ih =>
    intro listed a w hfree hr hy H
    refine ⟨fun h => (by rw [h] at hr; cases hr), fun j hj => ?_⟩
    by_cases hji : j = i
    · subst hji; rw [hni]; exact own _ listed a w hy H
    · have h1 := (H w (hrf w)).2 j (ready_mono hj hji)
      obtain ⟨hjun, oj, hoj, hall⟩ := mem_ready.1 hj
      have hnot := not_waits (mem_ready.1 hr).1 hall
      have hap := hfree j oj hoj hji hjun hnot
      have hfree' := freeFor_set hjun hfree
      have hr' := ready_mono hr (Ne.symm hji)
      cases hm : memNat j hl with
      | true =>
        rw [hm] at h1
        simp only at h1 ⊢
        have h2 := wpOp_put hoj hap (fun cs b => hsel i oi cs b hi) (fun cs b => hsel j oj cs b hoj) (fun c a w h => absurd h (hQ c _ w)) hy h1
        refine wpOp_mono (fun a' w1 h3 w' hw' => ih (listed.setIfInBounds j true) a' w' hfree' hr' h3.1 fun w'' hw'' => ?_) h2
        rw [Array.setIfInBounds_comm _ _ hji]
        exact h3.2 w'' (ht _ _ _ hw' hw'')
      | false =>
        rw [hm] at h1
        simp only at h1 ⊢
        have h2 := qOp_putY hoj hap (fun cs b => hsel j oj cs b hoj) (fun a u h => Yields.put hap (fun cs b => hsel i oi cs b hi) u h) hy h1
        refine qOp_mono (fun a' h3 w' hw' => ih (listed.setIfInBounds j true) a' w' hfree' hr' h3.1 fun w'' hw'' => ?_) h2
        rw [Array.setIfInBounds_comm _ _ hji]
        exact h3.2 w'' (ht _ _ _ hw' hw'')

/-- What only lays a new block: what it does. -/
def Easy (P : Program) (C : World → World → Prop) : Prop :=
  ∀ (o : Oper) (a : Act) (w : World), easyO o = true → (∃ u w1, (execOp a.eval o).run P w = .ok (.value u) w1 ∧ C w w1) ∨ ∃ x w1, (execOp a.eval o).run P w = .halt x w1

theorem easy_is : Easy P ClsW := by
  intro o a w h
  unfold easyO at h
  split at h
  · rename_i T hop
    cases hi : P.info? T with
    | none => exact .inr ⟨_, w, by simp [execOp, hop, Instr.alloc, zeroValue, typeInfo, hi]; rfl⟩
    | some i =>
      cases hz : i.zero with
      | none => exact .inr ⟨_, w, by simp [execOp, hop, Instr.alloc, zeroValue, typeInfo, hi, hz]; rfl⟩
      | some z => exact .inl ⟨.pointer (some ⟨w.heap.size, 0, none⟩), w.alloc (.cells z.cells T), by simp [execOp, hop, Instr.alloc, zeroValue, typeInfo, hi, hz, newVar, newRow], cls_alloc w _, Same.cells w _ _⟩
  · cases h

theorem wpOp_putE (hE : Easy P C) (hrf : ∀ w, C w w) {j : Nat} {oi oj : Oper} {v : Value} (hj : ops[j]? = some oj) (hap : oi.apart ops oj = true) (hez : easyO oj = true)
    (hsi : ∀ cs b, oi.op ≠ .select cs b) (hsj : ∀ cs b, oj.op ≠ .select cs b) (hQ : ∀ c a w, ¬ Q (.panic c) a w) {K : Act → World → Prop} {a : Act} {w : World}
    (hy : YT P ops C w oi v a) (h : wpOp P ops Q j K (a.put oi.dst v) w) :
    wpOp P ops Q j (fun a' w1 => C w w1 ∧ YT P ops C w oi v a' ∧ K (a'.put oi.dst v) w1) a w := by
  obtain ⟨h1, h2, h3⟩ := Oper.apart_spec hap
  unfold wpOp at *
  simp only [hj] at *
  rw [wanted_put oj a oi.dst v h1] at h
  split
  · rename_i hw
    simp only [hw, if_true] at h
    rcases h with h | ⟨hasks, hlets⟩
    case inr => exact .inr ⟨by unfold Oper.asks at *; rw [execOp_put oj hsj a oi.dst v h1] at hasks; exact hasks, hlets⟩
    refine .inl ?_
    unfold Oper.wp at *
    rw [execOp_put oj hsj a oi.dst v h1] at h
    rcases hE oj a w hez with ⟨u, w1, e, hc⟩ | ⟨x, w1, e⟩
    · rw [e] at h ⊢
      simp only [Oper.upon] at h ⊢
      exact ⟨hc, YT.put hap hsi u hy, by rw [← Act.put_comm a v u h2]; exact h⟩
    · rw [e] at h ⊢
      cases x <;> simp only [Oper.upon] at h ⊢
      case panic u => exact absurd h (hQ _ _ _)
  · rename_i hw
    simp only [hw] at h
    exact ⟨hrf w, YT.put hap hsi undef hy, by rw [← Act.put_comm a v undef h2]; exact h⟩

/-- **What is quiet may be taken first, if all that change memory wait for it.** -/
theorem firstQuiet (hE : Easy P C) (hQ : ∀ c a w, ¬ Q (.panic c) a w) (hrf : ∀ w, C w w) (ht : ∀ w w' w'', C w w' → C w' w'' → C w w'') {i : Nat} {oi : Oper} {v : Value} (hi : ops[i]? = some oi) (hni : memNat i hl = false) (hsel : ∀ (j : Nat) (o : Oper) cs b, ops[j]? = some o → o.op ≠ .select cs b)
    {B : List Nat} (hB : ∀ j ∈ B, ∃ oj, ops[j]? = some oj ∧ ∃ e ∈ oj.after, Region.binds .any e = true ∧ (e.on = i ∨ e.on ∈ B)) :
    ∀ (fuel : Nat) (listed : Array Bool) (a : Act) (w : World), freeFor ops oi i listed → (∀ j ∈ B, listed.getD j true = false) → (∀ j, memNat j hl = true → listed.getD j false = false → j ∈ B ∨ easyAt ops j = true) →
      i ∈ Region.ready .any ops listed → YT P ops C w oi v a →
      (∀ w', C w w' → wpAnyM P ops C hl Q fuel (listed.setIfInBounds i true) (a.put oi.dst v) w') → wpAnyM P ops C hl Q (fuel + 1) listed a w := by
  intro fuel
  have own : ∀ (fuel : Nat) (listed : Array Bool) (a : Act) (w : World), YT P ops C w oi v a → (∀ w', C w w' → wpAnyM P ops C hl Q fuel (listed.setIfInBounds i true) (a.put oi.dst v) w') →
      qOp P ops (C w) i (fun a' => ∀ w', C w w' → wpAnyM P ops C hl Q fuel (listed.setIfInBounds i true) a' w') a := fun fuel listed a w hy H => (hy.yieldsIn ht).qOp hi H
  induction fuel with
  | zero =>
    intro listed a w _ _ _ hr hy H
    refine ⟨fun h => (by rw [h] at hr; cases hr), fun j hj => ?_⟩
    by_cases hji : j = i
    · subst hji; rw [hni]; exact own 0 listed a w hy H
    · have := ready_mono hj hji
      rw [(H w (hrf w)).1] at this
      cases this
  | succ fuel ih =>
    intro listed a w hfree hun hhard hr hy H
    refine ⟨fun h => (by rw [h] at hr; cases hr), fun j hj => ?_⟩
    by_cases hji : j = i
    · subst hji; rw [hni]; exact own _ listed a w hy H
    · have h1 := (H w (hrf w)).2 j (ready_mono hj hji)
      obtain ⟨hjun, oj, hoj, hall⟩ := mem_ready.1 hj
      have hnot := not_waits (mem_ready.1 hr).1 hall
      have hap := hfree j oj hoj hji hjun hnot
      have hfree' := freeFor_set hjun hfree
      have hr' := ready_mono hr (Ne.symm hji)
      have hjB : j ∉ B := fun hin => by
        obtain ⟨oj', hoj', e, he, hb, hon⟩ := hB j hin
        rw [hoj] at hoj'
        cases hoj'
        rcases hon with h2 | h2
        · exact hnot e he hb h2
        · exact not_waits (hun _ h2) hall e he hb rfl
      have hun' : ∀ k ∈ B, (listed.setIfInBounds j true).getD k true = false := fun k hk => by
        rw [getD_set_ne true (by rintro rfl; exact hjB hk)]
        exact hun k hk
      have hhard' : ∀ k, memNat k hl = true → (listed.setIfInBounds j true).getD k false = false → k ∈ B ∨ easyAt ops k = true := fun k hk hl2 => by
        refine hhard k hk ?_
        cases hb : listed.getD k false with
        | false => rfl
        | true => rw [getD_set_true hb] at hl2; cases hl2
      cases hm : memNat j hl with
      | true =>
        have : listed.getD j false = false := by
          rcases Nat.lt_or_ge j listed.size with h' | h'
          · simp [h'] at hjun ⊢; exact hjun
          · simp [Array.getElem?_eq_none h']
        have hez : easyO oj = true := by
          have h9 := (hhard j hm this).resolve_left hjB
          unfold easyAt at h9
          rw [hoj] at h9
          exact h9
        rw [hm] at h1
        simp only at h1 ⊢
        have h2 := wpOp_putE hE hrf hoj hap hez (fun cs b => hsel i oi cs b hi) (fun cs b => hsel j oj cs b hoj) hQ hy h1
        refine wpOp_mono (fun a' w1 h3 w' hw' => ih (listed.setIfInBounds j true) a' w' hfree' hun' hhard' hr' (h3.2.1.sub ht (ht _ _ _ h3.1 hw')) fun w'' hw'' => ?_) h2
        rw [Array.setIfInBounds_comm _ _ hji]
        exact h3.2.2 w'' (ht _ _ _ hw' hw'')
      | false =>
        rw [hm] at h1
        simp only at h1 ⊢
        have h2 := qOp_putY hoj hap (fun cs b => hsel j oj cs b hoj) (fun a u h => YT.put hap (fun cs b => hsel i oi cs b hi) u h) hy h1
        refine qOp_mono (fun a' h3 w' hw' => ih (listed.setIfInBounds j true) a' w' hfree' hun' hhard' hr' (h3.1.sub ht hw') fun w'' hw'' => ?_) h2
        rw [Array.setIfInBounds_comm _ _ hji]
        exact h3.2 w'' (ht _ _ _ hw' hw'')
end

theorem agree_some {R : Type} {x y : Option R} {r : R} (h : agree x y = some r) : x = some r ∧ y = some r := by
  unfold agree at h
  split at h
  · rename_i he; exact ⟨h, he ▸ h⟩
  · cases h
theorem agreeL_some {R : Type} {r : R} : ∀ {l : List (Option R)}, agreeL l = some r → ∀ x ∈ l, x = some r
  | [], h, x, hx => by cases hx
  | [y], h, x, hx => (List.mem_singleton.1 hx) ▸ h
  | y :: z :: l, h, x, hx => by
    simp only [agreeL] at h
    obtain ⟨h1, h2⟩ := agree_some h
    rcases List.mem_cons.1 hx with h' | h'
    · subst h'; exact h1
    · exact agreeL_some h2 x h'

theorem blockedL_spec {ops : Array Oper} {i : Nat} : ∀ {l : List (Oper × Nat)} {bl : List Nat}, (∀ x ∈ l, ops[x.2]? = some x.1) → (∀ j ∈ bl, ∃ oj, ops[j]? = some oj ∧ ∃ e ∈ oj.after, Region.binds .any e = true ∧ (e.on = i ∨ e.on ∈ blockedL i l bl)) →
    (∀ j ∈ bl, j ∈ blockedL i l bl) ∧ ∀ j ∈ blockedL i l bl, ∃ oj, ops[j]? = some oj ∧ ∃ e ∈ oj.after, Region.binds .any e = true ∧ (e.on = i ∨ e.on ∈ blockedL i l bl)
  | [], bl, _, hb => ⟨fun j h => h, hb⟩
  | (o, j) :: l, bl, hl, hb => by
    cases hc : (o.after.any fun e => Region.binds .any e && (e.on == i || memNat e.on bl)) with
    | true =>
      simp only [blockedL, hc] at hb ⊢
      have sub : ∀ k ∈ bl, k ∈ blockedL i l (j :: bl) := by
        have mono : ∀ {l : List (Oper × Nat)} {bl : List Nat}, ∀ k ∈ bl, k ∈ blockedL i l bl := by
          intro l
          induction l with
          | nil => intro bl k h; exact h
          | cons x l ih =>
            intro bl k h
            obtain ⟨o, j⟩ := x
            simp only [blockedL]
            split
            · exact ih k (List.mem_cons_of_mem _ h)
            · exact ih k h
        exact fun k hk => mono k (List.mem_cons_of_mem _ hk)
      obtain ⟨h1, h2⟩ := blockedL_spec (l := l) (bl := j :: bl) (fun x hx => hl x (List.mem_cons_of_mem _ hx)) (fun k hk => by
        rcases List.mem_cons.1 hk with h' | h'
        · subst h'
          obtain ⟨e, he, hq⟩ := Array.any_eq_true'.1 hc
          simp only [Bool.and_eq_true, Bool.or_eq_true, beq_iff_eq] at hq
          exact ⟨o, hl (o, k) List.mem_cons_self, e, he, hq.1, hq.2.imp id fun h => sub _ (memNat_iff.1 h)⟩
        · exact hb k h')
      exact ⟨fun k hk => h1 k (List.mem_cons_of_mem _ hk), h2⟩
    | false =>
      simp only [blockedL, hc] at hb ⊢
      exact blockedL_spec (fun x hx => hl x (List.mem_cons_of_mem _ hx)) hb

theorem blocked_ok {ops : Array Oper} {i : Nat} : ∀ j ∈ blockedL i ops.toList.zipIdx [], ∃ oj, ops[j]? = some oj ∧ ∃ e ∈ oj.after, Region.binds .any e = true ∧ (e.on = i ∨ e.on ∈ blockedL i ops.toList.zipIdx []) :=
  (blockedL_spec (fun x hx => by
    have := List.mk_mem_zipIdx_iff_getElem?.1 (show (x.1, x.2) ∈ ops.toList.zipIdx from hx)
    simpa using this) (fun j h => by cases h)).2

theorem allUn_spec {listed : Array Bool} : ∀ {l : List Nat}, allUn listed l = true → ∀ j ∈ l, listed.getD j true = false
  | [], _, j, h => by cases h
  | k :: l, h, j, hj => by
    simp only [allUn, Bool.and_eq_true, Bool.not_eq_true'] at h
    rcases List.mem_cons.1 hj with h' | h'
    · subst h'; exact h.1
    · exact allUn_spec h.2 j h'
theorem hardB_spec {ops : Array Oper} {listed : Array Bool} {B : List Nat} : ∀ {l : List Nat}, hardB ops listed B l = true → ∀ j ∈ l, listed.getD j false = false → j ∈ B ∨ easyAt ops j = true
  | [], _, j, h, _ => by cases h
  | k :: l, h, j, hj, hu => by
    simp only [hardB, Bool.and_eq_true, Bool.or_eq_true] at h
    rcases List.mem_cons.1 hj with h' | h'
    · subst h'; exact (h.1.resolve_left (by rw [hu]; simp)).imp memNat_iff.1 id
    · exact hardB_spec h.2 j h' hu
theorem pickT_mem {hl : List Nat} {ops : Array Oper} {listed : Array Bool} {i : Nat} : ∀ {l : List Nat}, pickT hl ops listed l = some i → i ∈ l ∧ takeable hl ops listed i = true
  | [], h => by cases h
  | k :: l, h => by
    simp only [pickT] at h
    split at h
    · rename_i hk; cases h; exact ⟨List.mem_cons_self, hk⟩
    · obtain ⟨h1, h2⟩ := pickT_mem h; exact ⟨List.mem_cons_of_mem _ h1, h2⟩

section
variable {E : Ctx} {G : Cx} {σ : St} {β : Nat → Value} {w : World} {R : Type} {r : R} {a : Act} {o : Oper} {ops : Array Oper} {K : St → Option R} {hl : List Nat}

theorem guarded_hard (hE : FnsOk E) (hN : E.N = G.N) {i : Nat} {nx : Act → World → Prop} {Q : Exit → Act → World → Prop} (hi : ops[i]? = some o) (h : guarded E ops (step E) o σ K = some r) (hin : Inv G (σ.mo β w) σ.regs a)
    (hK : ∀ σ' β' a' w', K σ' = some r → Inv G (σ'.mo β' w') σ'.regs a' → nx a' w') : wpOp E.P ops Q i nx a w := by
  unfold wpOp
  simp only [hi]
  unfold guarded at h
  cases hg : o.guard with
  | none =>
    rw [hg] at h
    rw [wanted_none hg, if_pos rfl]
    exact .inl (step_sound hE hN h hin hK)
  | some jw =>
    obtain ⟨j, want⟩ := jw
    rw [hg] at h
    simp only at h
    split at h
    · rename_i q hq
      split at h
      · rename_i d hd
        split at h
        · rename_i b S hb
          rw [hN] at hb
          obtain ⟨hw, hsv⟩ := wanted_some hin hg hq hd hb
          rw [hw]
          cases hbw : beq_ b want with
          | true =>
            rw [hbw] at h
            simp only [cond_true] at h
            rw [if_pos rfl]
            have hbe := beq_eq hbw
            subst hbe
            have hin2 : Inv G ((σ.put (some d) (mkv ⟨.bool, b⟩ [])).mo β w) (σ.put (some d) (mkv ⟨.bool, b⟩ [])).regs a := inv_note hin (by rw [hsv]; exact repE_mkbool _ _)
            exact .inl (step_sound hE hN h hin2 hK)
          | false =>
            rw [hbw] at h
            simp only [cond_false] at h
            rw [if_neg (by simp)]
            split at h
            · rename_i hdst
              have hbe := beq_ne hbw
              have hin2 : Inv G ((σ.put (some d) (mkv ⟨.bool, Bool.not want⟩ [])).mo β w) (σ.put (some d) (mkv ⟨.bool, Bool.not want⟩ [])).regs a := inv_note hin (by rw [hsv, ← hbe]; exact repE_mkbool _ _)
              rw [hN] at hdst
              exact hK _ β _ _ h (inv_put' hin2 (e := .tup []) repE_undef hdst)
            · cases h
        · rename_i es hb
          rw [hN] at hb
          rw [wanted_undef hin hg hq hd hb, if_neg (by simp)]
          split at h
          · rename_i hdst
            rw [hN] at hdst
            exact hK _ β _ _ h (inv_put' hin (e := .tup []) repE_undef hdst)
          · cases h
        · cases h
      · cases h
    · cases h

theorem stepQ_free (hE : FnsOk E) (hN : E.N = G.N) (hf : freeO o = true) {v : Value} (h : ∀ w', ClsW w w' → o.quietAt E.P a (ClsW w') w' v) : ∀ w', (execOp a.eval o).run E.P w' = .ok (.value v) w' := by
  have h0 := h w (ClsW.refl w)
  unfold Oper.quietAt at h0
  unfold freeO at hf
  split at hf
  · rename_i x hop
    rw [BigFrame.run_move x hop] at h0
    simp only [Oper.quietUpon] at h0
    intro w'
    rw [BigFrame.run_move x hop, h0.2]
  · rename_i x hop
    rw [BigFrame.run_assign x hop] at h0
    simp only [Oper.quietUpon] at h0
    intro w'
    rw [BigFrame.run_assign x hop, h0.2]
  · cases hf

theorem guarded_quiet (hE : FnsOk E) (hN : E.N = G.N) (h : guarded E ops (stepQ E) o σ K = some r) (hin : Inv G (σ.mo β w) σ.regs a) :
    ∃ v σ', YT E.P ops ClsW w o v a ∧ K σ' = some r ∧ Inv G (σ'.mo β w) σ'.regs (a.put o.dst v) ∧ (freeO o = true → Yields E.P ops o v a) := by
  unfold guarded at h
  cases hg : o.guard with
  | none =>
    rw [hg] at h
    obtain ⟨hd, e, v, h0, h1, h2⟩ := stepQ_sound hE hN h hin
    exact ⟨v, _, .inl ⟨wanted_none hg, h2⟩, h0, inv_put' hin h1 hd, fun hf => .inl ⟨wanted_none hg, stepQ_free hE hN hf h2⟩⟩
  | some jw =>
    obtain ⟨j, want⟩ := jw
    rw [hg] at h
    simp only at h
    split at h
    · rename_i q hq
      split at h
      · rename_i d hd
        split at h
        · rename_i b S hb
          rw [hN] at hb
          obtain ⟨hw, hsv⟩ := wanted_some hin hg hq hd hb
          cases hbw : beq_ b want with
          | true =>
            rw [hbw] at h
            simp only [cond_true] at h
            have hbe := beq_eq hbw
            subst hbe
            have hin2 : Inv G ((σ.put (some d) (mkv ⟨.bool, b⟩ [])).mo β w) (σ.put (some d) (mkv ⟨.bool, b⟩ [])).regs a := inv_note hin (by rw [hsv]; exact repE_mkbool _ _)
            obtain ⟨hd2, e, v, h0, h1, h2⟩ := stepQ_sound hE hN h hin2
            have hw1 := hw.trans hbw
            exact ⟨v, _, .inl ⟨hw1, h2⟩, h0, inv_put' hin2 h1 hd2, fun hf => .inl ⟨hw1, stepQ_free hE hN hf h2⟩⟩
          | false =>
            rw [hbw] at h
            simp only [cond_false] at h
            split at h
            · rename_i hdst
              have hbe := beq_ne hbw
              have hin2 : Inv G ((σ.put (some d) (mkv ⟨.bool, Bool.not want⟩ [])).mo β w) (σ.put (some d) (mkv ⟨.bool, Bool.not want⟩ [])).regs a := inv_note hin (by rw [hsv, ← hbe]; exact repE_mkbool _ _)
              rw [hN] at hdst
              exact ⟨undef, _, .inr ⟨hw.trans hbw, rfl⟩, h, inv_put' hin2 (e := .tup []) repE_undef hdst, fun _ => .inr ⟨hw.trans hbw, rfl⟩⟩
            · cases h
        · rename_i es hb
          rw [hN] at hb
          have hw := wanted_undef hin hg hq hd hb
          split at h
          · rename_i hdst
            rw [hN] at hdst
            exact ⟨undef, _, .inr ⟨hw, rfl⟩, h, inv_put' hin (e := .tup []) repE_undef hdst, fun _ => .inr ⟨hw, rfl⟩⟩
          · cases h
        · cases h
      · cases h
    · cases h

/-- **Each order that may be drawn.** -/
theorem runDraw_sound (hE : FnsOk E) (hN : E.N = G.N) (hs : Region.noSelect ops = true) {Q : Exit → Act → World → Prop} (hQ : ∀ c a w, ¬ Q (.panic c) a w) :
    ∀ (n : Nat) {listed : Array Bool} {σ : St} {β : Nat → Value} {w : World} {a : Act}, runDraw E ops hl n listed σ K = some r → Inv G (σ.mo β w) σ.regs a →
    (∀ σ' β' a' w', K σ' = some r → Inv G (σ'.mo β' w') σ'.regs a' → Q .normal a' w') → wpAnyM E.P ops ClsW hl Q n listed a w
  | 0, listed, σ, β, w, a, h, hin, hK => by
    unfold runDraw at h
    split at h
    · rename_i hr; exact ⟨hr, hK σ β a w h hin⟩
    · cases h
  | n + 1, listed, σ, β, w, a, h, hin, hK => by
    unfold runDraw at h
    split at h
    · rename_i hr
      exact ⟨fun _ => hK σ β a w h hin, fun i hi => by rw [hr] at hi; cases hi⟩
    · rename_i i0 rs hr
      split at h
      · rename_i i hp
        obtain ⟨hmem, htk⟩ := pickT_mem hp
        rw [← hr] at hmem
        simp only [takeable, Bool.and_eq_true, Bool.not_eq_true', Bool.or_eq_true] at htk
        obtain ⟨hni, hfree, hkind⟩ := htk
        split at h
        · rename_i o ho
          obtain ⟨v, σ', hy, hk, hin', hyf⟩ := guarded_quiet hE hN h hin
          have hgo : ∀ w', ClsW w w' → wpAnyM E.P ops ClsW hl Q n (listed.setIfInBounds i true) (a.put o.dst v) w' := fun w' hw' => runDraw_sound hE hN hs hQ n hk (inv_cls hin' hw') hK
          have hff : freeFor ops o i listed := Region.free_spec ho hfree
          rcases hkind with hkind | ⟨hun, hhard⟩
          · rw [ho] at hkind
            exact firstFree ClsW.refl (fun _ _ _ => ClsW.trans) ho hni (Region.noSelect_spec hs) hQ n listed a w hff hmem (hyf hkind) hgo
          · exact firstQuiet easy_is hQ ClsW.refl (fun _ _ _ => ClsW.trans) ho hni (Region.noSelect_spec hs) blocked_ok n listed a w hff (allUn_spec hun) (fun j hj hu => hardB_spec hhard j (memNat_iff.1 hj) hu) hmem hy hgo
        · cases h
      · refine ⟨fun h0 => (by rw [hr] at h0; cases h0), fun i hi => ?_⟩
        rw [hr] at hi
        have h1 := agreeL_some h _ (List.mem_map.2 ⟨i, hi, rfl⟩)
        split at h1
        · rename_i o ho hm
          rw [hm]
          simp only
          exact guarded_hard hE hN ho h1 hin fun σ' β' a' w1 hk hin' w' hw' => runDraw_sound hE hN hs hQ n hk (inv_cls hin' hw') hK
        · rename_i o ho hm
          rw [hm]
          simp only
          obtain ⟨v, σ', hy, hk, hin', _⟩ := guarded_quiet hE hN h1 hin
          have hgo : ∀ w', ClsW w w' → wpAnyM E.P ops ClsW hl Q n (listed.setIfInBounds i true) (a.put o.dst v) w' := fun w' hw' => runDraw_sound hE hN hs hQ n hk (inv_cls hin' hw') hK
          exact (YT.yieldsIn (C := ClsW) (fun _ _ _ => ClsW.trans) hy).qOp (K := fun a' => ∀ w', ClsW w w' → wpAnyM E.P ops ClsW hl Q n (listed.setIfInBounds i true) a' w') ho hgo
        · cases h1
end
end Go.Proofs.Ytpegolnoadpjhaa.R
