/- The part of a score that an instrument can play: the reference's and the program's are the same. -/
import Derived.Test.YtfpelgmocnolbaaTR8
set_option linter.unusedVariables false
set_option linter.unusedSimpArgs false
namespace Go.Proofs.Ytfpelgmocnolbaa.R
theorem mget_mput (k v : Int) : ∀ (l : List (Int × Int)) (p : Int), mget (mput l k v) p = if k = p then some v else mget l p
  | [], p => by by_cases h : k = p <;> simp [mput, mget, h]
  | (a, b) :: l, p => by
    have ih := mget_mput k v l p
    by_cases ha : a = k
    · subst ha
      by_cases h : a = p <;> simp [mput, mget, h]
    · by_cases h : a = p
      · subst h
        have : ¬ k = a := fun h => ha h.symm
        simp [mput, mget, ha, this]
      · simp [mput, mget, ha, h, ih]
def lastAt (out : List Note) (p : Int) : Nat → Option Nat
  | 0 => none
  | k + 1 => cond (ieq (noteAt out k).1 p) (some k) (lastAt out p k)
theorem lastAt_lt {out : List Note} {p : Int} : ∀ {n k : Nat}, lastAt out p n = some k → k < n
  | n + 1, k, h => by
    simp only [lastAt] at h
    cases hc : ieq (noteAt out n).1 p with
    | true => rw [hc] at h; simp only [cond_true, Option.some.injEq] at h; omega
    | false => rw [hc] at h; have := lastAt_lt (n := n) h; omega
theorem noteAt_append {out : List Note} {x : Note} {k : Nat} (h : k < out.length) : noteAt (out ++ [x]) k = noteAt out k := by
  simp [noteAt, List.getD, List.getElem?_append_left h]
theorem noteAt_last {out : List Note} {x : Note} : noteAt (out ++ [x]) out.length = x := by simp [noteAt, List.getD]
theorem lastAt_append {out : List Note} {x : Note} {p : Int} : ∀ (n : Nat), n ≤ out.length → lastAt (out ++ [x]) p n = lastAt out p n
  | 0, _ => rfl
  | n + 1, h => by simp only [lastAt]; rw [noteAt_append (by omega), lastAt_append n (by omega)]
/-- The map tells when each pitch began last. -/
def Rel (last : List (Int × Int)) (out : List Note) : Prop := ∀ p, mget last p = (lastAt out p out.length).map fun k => (noteAt out k).2.1
theorem Rel.nil : Rel [] [] := fun p => rfl
theorem Rel.put {last : List (Int × Int)} {out : List Note} (h : Rel last out) (x : Note) : Rel (mput last x.1 x.2.1) (out ++ [x]) := by
  intro p
  rw [mget_mput, List.length_append, List.length_singleton]
  simp only [lastAt, noteAt_last]
  by_cases hp : x.1 = p
  · rw [if_pos hp, ieq_t hp, cond_true, Option.map_some, noteAt_last]
  · rw [if_neg hp, ieq_f hp, cond_false, lastAt_append _ (Nat.le_refl _), h p]
    cases hk : lastAt out p out.length with
    | none => rfl
    | some k => rw [Option.map_some, Option.map_some, noteAt_append (lastAt_lt hk)]
def lastI : Option Nat → Int
  | none => -1
  | some k => (k : Int)
theorem f55_at {out : List Note} {x : Note} (hl : out.length ≤ 1073741824) : ∀ (k : Nat), k ≤ out.length → f55_l0 (out ++ [x], ((out.length : Nat) : Int), (k : Int) - 1, ()) = some ((lastI (lastAt out x.1 k), ()), ()) := by
  intro k
  induction k with
  | zero =>
    intro hk
    rw [f55_l0_eq]
    unfold f55_b0
    rw [ile_f (by omega), cond_false]
    rfl
  | succ k ih =>
    intro hk
    have hl2 : (out ++ [x]).length = out.length + 1 := by simp
    have e1 : rdA (0, 0, 0) (out ++ [x]) (k : Int) = noteAt out k := by rw [rdA_nat (by omega), ← noteAt_get, noteAt_append (by omega)]
    have e2 : rdA (0, 0, 0) (out ++ [x]) ((out.length : Nat) : Int) = x := by rw [rdA_nat (by omega), ← noteAt_get, noteAt_last]
    have hih := ih (by omega)
    rw [f55_l0_eq]
    unfold f55_b0
    rw [show ((k + 1 : Nat) : Int) - 1 = (k : Int) by omega, ile_t (by omega), cond_true, inB_t (by omega) (by omega), cond_true, inB_t (by omega) (by omega), cond_true, e1, e2]
    simp only [lastAt]
    cases hc : ieq (noteAt out k).1 x.1 with
    | true => rfl
    | false => rw [cond_false, joinK_val, isub64 (by unfold In64; omega)]; exact hih
theorem f55_is {out : List Note} {x : Note} (hl : out.length ≤ 1073741824) : f55 (out ++ [x]) ((out.length : Nat) : Int) = some ((lastI (lastAt out x.1 out.length), ()), ()) := by
  unfold f55
  rw [joinK_val, isub64 (by unfold In64; omega)]
  exact f55_at hl _ (Nat.le_refl _)
theorem part_at {x : Instr} {l : List Note} (hx : x.1.length ≤ 1073741824) (hl : l.length ≤ 30) (hp : Pre l l.length) : ∀ (m i : Nat) (out : List Note) (last : List (Int × Int)), l.length - i = m → i ≤ l.length → out.length ≤ i → Rel last out → (∀ y ∈ out, GoodN y) →
    ∃ o : List Note, o.length ≤ 30 ∧ f33_l0 ((x.1, x.2, ()), out, l, ((l.length : Nat) : Int), (i : Int), ()) = some ((o, ()), ()) ∧ f18_l0 ((x.1, x.2, ()), out, last, l, ((l.length : Nat) : Int), (i : Int), ()) = some ((o, true, ()), ()) := by
  intro m
  induction m with
  | zero =>
    intro i out last hm hi ho hr hg
    refine ⟨out, by omega, ?_, ?_⟩
    · rw [f33_l0_eq]; unfold f33_b0; rw [ilt_f (by omega), cond_false]
    · rw [f18_l0_eq]; unfold f18_b0; rw [ilt_f (by omega), cond_false]
  | succ m ih =>
    intro i out last hm hi ho hr hg
    have hil : i < l.length := by omega
    have e : rdA (0, 0, 0) l (i : Int) = l[i] := rdA_nat hil
    have hgi := hp.good i hil hil
    have := hgi.s0; have := hgi.s1
    obtain ⟨t, t1, t2⟩ := f47_is x l[i].1 hx
    have t3 := f40_is x.1 l[i].1 hx
    have hrp := hr l[i].1
    -- what both decide
    have key : ∃ keep : Bool, (∀ s0, f33_r5 s0 (x.1, x.2, ()) out (l[i].1, l[i].2.1, l[i].2.2, ()) (out ++ [l[i]]) l ((l.length : Nat) : Int) (i : Int) = s0 ((x.1, x.2, ()), cond keep (out ++ [l[i]]) out, l, ((l.length : Nat) : Int), (i : Int) + 1, ())) ∧
        (∀ s0, f18_b0 s0 (x.1, x.2, ()) out last l ((l.length : Nat) : Int) (i : Int) = s0 ((x.1, x.2, ()), cond keep (out ++ [l[i]]) out, cond keep (mput last l[i].1 l[i].2.1) last, l, ((l.length : Nat) : Int), (i : Int) + 1, ())) := by
      have hS : ∀ (s0 : f33_l0_X → Option f33_R) (c : Bool), f33_r7 s0 (x.1, x.2, ()) out (out ++ [l[i]]) l ((l.length : Nat) : Int) (i : Int) c = s0 ((x.1, x.2, ()), cond c (out ++ [l[i]]) out, l, ((l.length : Nat) : Int), (i : Int) + 1, ()) := by
        intro s0 c
        unfold f33_r7
        cases c <;> simp only [cond_true, cond_false, joinK_val, f33_c47, iadd64 (show In64 ((i : Int) + 1) by unfold In64; omega)]
      have hP : ∀ (s0 : f18_l0_X → Option f18_R) (c : Bool), f18_r9 s0 (x.1, x.2, ()) out last (l[i].1, l[i].2.1, l[i].2.2, ()) l ((l.length : Nat) : Int) (i : Int) c = s0 ((x.1, x.2, ()), cond (!c) (out ++ [l[i]]) out, cond (!c) (mput last l[i].1 l[i].2.1) last, l, ((l.length : Nat) : Int), (i : Int) + 1, ()) := by
        intro s0 c
        unfold f18_r9
        cases c <;> simp only [Bool.not_true, Bool.not_false, cond_true, cond_false, List.length_singleton, capB_t (show out.length + 1 ≤ 1073741824 by omega), joinK_val, f18_k1, iadd64 (show In64 ((i : Int) + 1) by unfold In64; omega)]
        rfl
      have hS0 : ∀ s0, f33_r5 s0 (x.1, x.2, ()) out (l[i].1, l[i].2.1, l[i].2.2, ()) (out ++ [l[i]]) l ((l.length : Nat) : Int) (i : Int) =
          cond (x.1.any fun a => ieq a l[i].1) (cond (beq_ (ilt (lastI (lastAt out l[i].1 out.length)) 0) false) (cond (inB (lastI (lastAt out l[i].1 out.length)) (List.length (out ++ [l[i]])))
            (f33_r7 s0 (x.1, x.2, ()) out (out ++ [l[i]]) l ((l.length : Nat) : Int) (i : Int) (ile x.2 (isub .i64 l[i].2.1 (@rdA (Int × Int × Int) (0, 0, 0) (out ++ [l[i]]) (lastI (lastAt out l[i].1 out.length))).2.1))) none)
            (f33_r7 s0 (x.1, x.2, ()) out (out ++ [l[i]]) l ((l.length : Nat) : Int) (i : Int) true)) (f33_r7 s0 (x.1, x.2, ()) out (out ++ [l[i]]) l ((l.length : Nat) : Int) (i : Int) false) := fun s0 => by
        unfold f33_r5
        rw [f55_is (x := l[i]) (by omega), bind_val]
        dsimp only
        rw [t1, bind_val]
        dsimp only
        rw [t2, beq_t]
        rfl
      have hP0 : ∀ s0, f18_b0 s0 (x.1, x.2, ()) out last l ((l.length : Nat) : Int) (i : Int) =
          cond (x.1.any fun a => ieq a l[i].1) (cond (Option.isSome ((lastAt out l[i].1 out.length).map fun k => (noteAt out k).2.1))
            (f18_r9 s0 (x.1, x.2, ()) out last (l[i].1, l[i].2.1, l[i].2.2, ()) l ((l.length : Nat) : Int) (i : Int) (ilt (isub .i64 l[i].2.1 (Option.getD ((lastAt out l[i].1 out.length).map fun k => (noteAt out k).2.1) 0)) x.2))
            (f18_r9 s0 (x.1, x.2, ()) out last (l[i].1, l[i].2.1, l[i].2.2, ()) l ((l.length : Nat) : Int) (i : Int) false)) (f18_r9 s0 (x.1, x.2, ()) out last (l[i].1, l[i].2.1, l[i].2.2, ()) l ((l.length : Nat) : Int) (i : Int) true) := fun s0 => by
        unfold f18_b0
        rw [ilt_t (by omega), cond_true, inB_t (by omega) (by omega), cond_true, e, t3, bind_val]
        dsimp only
        rw [hrp, beq_f, Bool.not_not, beq_t]
        rfl
      cases hh : x.1.any fun a => ieq a l[i].1 with
      | false =>
        refine ⟨false, fun s0 => ?_, fun s0 => ?_⟩
        · rw [hS0, hh, cond_false]; exact hS s0 false
        · rw [hP0, hh, cond_false]; exact hP s0 true
      | true =>
        cases hk : lastAt out l[i].1 out.length with
        | none =>
          refine ⟨true, fun s0 => ?_, fun s0 => ?_⟩
          · rw [hS0, hh, cond_true, hk]
            simp only [lastI]
            rw [ilt_t (by omega), beq_f, Bool.not_true, cond_false]
            exact hS s0 true
          · rw [hP0, hh, cond_true, hk, Option.map_none, Option.isSome_none, cond_false]
            exact hP s0 false
        | some k =>
          have hkl := lastAt_lt hk
          have hgk : GoodN (noteAt out k) := by rw [noteAt_get hkl]; exact hg _ (List.getElem_mem hkl)
          have := hgk.s0; have := hgk.s1
          have e1 : rdA (0, 0, 0) (out ++ [l[i]]) (k : Int) = noteAt out k := by rw [rdA_nat (by simp; omega), ← noteAt_get, noteAt_append hkl]
          refine ⟨ile x.2 (l[i].2.1 - (noteAt out k).2.1), fun s0 => ?_, fun s0 => ?_⟩
          · rw [hS0, hh, cond_true, hk]
            simp only [lastI]
            rw [ilt_f (by omega), beq_f, Bool.not_false, cond_true, inB_t (by omega) (by simp; omega), cond_true, e1, isub64 (by unfold In64; omega)]
            exact hS s0 _
          · rw [hP0, hh, cond_true, hk, Option.map_some, Option.isSome_some, cond_true, Option.getD_some, isub64 (by unfold In64; omega), ilt_not]
            have := hP s0 (!ile x.2 (l[i].2.1 - (noteAt out k).2.1))
            rw [Bool.not_not] at this
            exact this
    obtain ⟨keep, k1, k2⟩ := key
    have ih' := ih (i + 1) (cond keep (out ++ [l[i]]) out) (cond keep (mput last l[i].1 l[i].2.1) last) (by omega) (by omega)
      (by cases keep <;> simp <;> omega) (by cases keep with | true => exact hr.put _ | false => exact hr)
      (by
        cases keep with
        | false => exact hg
        | true =>
          intro y hy
          rcases List.mem_append.1 hy with h | h
          · exact hg y h
          · rw [List.mem_singleton.1 h]; exact hgi)
    obtain ⟨o, o0, o1, o2⟩ := ih'
    rw [show ((i + 1 : Nat) : Int) = (i : Int) + 1 by omega] at o1 o2
    refine ⟨o, o0, ?_, ?_⟩
    · have c1 : capB 0 (List.length out) = true := capB_t (by omega)
      have c2 : capB (List.length (@List.append (Int × Int × Int) [] out)) (List.length [l[i]]) = true := capB_t (by simp; omega)
      rw [f33_l0_eq]
      unfold f33_b0
      rw [ilt_t (by omega), cond_true, inB_t (by omega) (by omega), cond_true, e]
      simp only [c1, c2, cond_true, agree_self, joinK_val]
      exact (k1 _).trans o1
    · rw [f18_l0_eq]
      exact (k2 _).trans o2
theorem part_is {x : Instr} {l : List Note} (hx : goodI x = true) (hl : goodS l = true) : ∃ o : List Note, o.length ≤ 30 ∧ f33 x l = some ((o, ()), ()) ∧ f18 x l = some ((o, true, ()), ()) := by
  have hxl := (goodI_of hx).len1
  obtain ⟨hp, hll⟩ := goodS_pre hl
  obtain ⟨o, o0, o1, o2⟩ := part_at (x := x) (by omega) hll hp _ 0 [] [] rfl (Nat.zero_le _) (Nat.le_refl _) Rel.nil (fun y hy => by cases hy)
  refine ⟨o, o0, ?_, ?_⟩
  · unfold f33
    rw [joinK_val]
    exact o1
  · unfold f18
    rw [f25_is x (by omega), bind_val, hx, Bool.not_true, beq_f, Bool.not_false, cond_true, f35_is l (by omega), bind_val, hl, joinK_val]
    dsimp only
    rw [f18_r1, Bool.not_true, cond_false, joinK_val]
    exact o2
end Go.Proofs.Ytfpelgmocnolbaa.R
