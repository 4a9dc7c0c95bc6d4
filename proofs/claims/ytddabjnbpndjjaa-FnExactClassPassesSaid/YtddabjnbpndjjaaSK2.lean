/- What speaks, told plainly. -/
import Derived.Test.YtddabjnbpndjjaaMT2
set_option linter.unusedVariables false
set_option linter.unusedSimpArgs false
set_option linter.unusedSectionVars false
namespace Go.Proofs.Ytddabjnbpndjjaa.R
theorem mget_put2 : ∀ (m : List (Int × Int)) (k v k' : Int), mget (mput m k v) k' = if k = k' then some v else mget m k'
  | [], k, v, k' => by
    simp only [mput, mget]
    by_cases h : k = k'
    · simp [h]
    · simp [h]
  | (a, b) :: m, k, v, k' => by
    simp only [mput]
    by_cases h : a = k
    · subst h
      simp only [decide_true, cond_true, mget]
      by_cases h2 : a = k'
      · simp [h2]
      · simp [h2]
    · simp only [h, decide_false, cond_false, mget]
      by_cases h2 : a = k'
      · subst h2
        simp [Ne.symm h]
      · simp only [h2, decide_false, cond_false]
        exact mget_put2 m k v k'
/-- A hole doesn't speak. -/
def silB (ps : List Int) (rp : Int) (a h : Note) (o : Option Int) : Bool :=
  ile ((ps.length : Nat) : Int) h.1 || (ilt (h.2.2 - h.2.1) a.2.2 || ((o.isSome && ilt (h.2.1 - o.getD 0) (2 * rp)) || ile (h.2.2 + a.2.1) (h.2.1 + a.1)))
def plyF (ps : List Int) (a h : Note) : Note := (rdA 0 ps h.1, h.2.1 + a.1, h.2.2 + a.2.1)
def spF (ps : List Int) (rp : Int) (a : Note) : List Note → Nat → List (Int × Int) → List Note × List Int
  | [], _, _ => ([], [])
  | h :: s, k, m => cond (silB ps rp a h (mget m h.1)) ((spF ps rp a s (k + 1) m).1, (k : Int) :: (spF ps rp a s (k + 1) m).2)
      (plyF ps a h :: (spF ps rp a s (k + 1) (mput m h.1 h.2.1)).1, (spF ps rp a s (k + 1) (mput m h.1 h.2.1)).2)
theorem spF_len (ps : List Int) (rp : Int) (a : Note) : ∀ (s : List Note) (k : Nat) (m : List (Int × Int)), (spF ps rp a s k m).1.length + (spF ps rp a s k m).2.length = s.length
  | [], _, _ => rfl
  | h :: s, k, m => by
    have h1 := spF_len ps rp a s (k + 1) m
    have h2 := spF_len ps rp a s (k + 1) (mput m h.1 h.2.1)
    unfold spF
    cases silB ps rp a h (mget m h.1) <;> simp <;> omega
structure GoodA (a : Note) : Prop where
  d0 : 0 ≤ a.1
  d1 : a.1 ≤ 40
  r0 : 0 ≤ a.2.1
  r1 : a.2.1 ≤ 40
  l0 : 0 ≤ a.2.2
  l1 : a.2.2 ≤ 40
structure GoodH (h : Note) : Prop where
  t0 : 0 ≤ h.1
  t1 : h.1 ≤ 19
  f0 : 0 ≤ h.2.1
  f1 : h.2.1 ≤ 1999
  o0 : h.2.1 + 1 ≤ h.2.2
  o1 : h.2.2 ≤ 2000
def LastOk (m : List (Int × Int)) : Prop := ∀ t v, mget m t = some v → 0 ≤ v ∧ v ≤ 1999
theorem LastOk.put {m : List (Int × Int)} {h : Note} (hm : LastOk m) (hh : GoodH h) : LastOk (mput m h.1 h.2.1) := by
  intro t v hv
  rw [mget_put2] at hv
  split at hv
  · cases hv; exact ⟨hh.f0, hh.f1⟩
  · exact hm t v hv
section
variable {s : List Note} (hs : s.length ≤ 1073741000) (hg : ∀ h ∈ s, GoodH h) {ps : List Int} {rp : Int} (hp : ps.length ≤ 1073741824) (hr0 : 1 ≤ rp) (hr1 : rp ≤ 20) {a : Note} (ha : GoodA a)
include hs hg hp hr0 hr1 ha in
theorem spoken_at : ∀ (m k : Nat) (out : List Note) (sl : List Int) (mp : List (Int × Int)), s.length - k = m → k ≤ s.length → out.length ≤ k → sl.length ≤ k → LastOk mp →
    f51_l0 ((ps, rp, ()), (a.1, a.2.1, a.2.2, ()), out, sl, mp, s, ((s.length : Nat) : Int), (k : Int), ()) =
      some ((out ++ (spF ps rp a (s.drop k) k mp).1, sl ++ (spF ps rp a (s.drop k) k mp).2, ()), ()) := by
  intro m
  induction m with
  | zero =>
    intro k out sl mp hm hk ho hsl hmp
    rw [f51_l0_eq]
    unfold f51_b0
    rw [ilt_f (by omega), cond_false, List.drop_eq_nil_of_le (by omega)]
    simp [spF]
  | succ m ih =>
    intro k out sl mp hm hk ho hsl hmp
    have hkl : k < s.length := by omega
    have e : rdA (0, 0, 0) s (k : Int) = s[k] := rdA_nat hkl
    have hh := hg s[k] (List.getElem_mem hkl)
    have h1 := hh.f0; have h2 := hh.f1; have h3 := hh.o0; have h4 := hh.o1; have h5 := ha.d0; have h6 := ha.d1; have h7 := ha.r0; have h8 := ha.r1
    have b1 : isub .i64 s[k].2.2 s[k].2.1 = s[k].2.2 - s[k].2.1 := isub64 (by unfold In64; omega)
    have b2 : iadd .i64 s[k].2.1 a.1 = s[k].2.1 + a.1 := iadd64 (by unfold In64; omega)
    have b3 : iadd .i64 s[k].2.2 a.2.1 = s[k].2.2 + a.2.1 := iadd64 (by unfold In64; omega)
    have b4 : imul .i64 2 rp = 2 * rp := imul64 (by unfold In64; omega)
    have go : ∀ b : Bool, silB ps rp a s[k] (mget mp s[k].1) = b → f51_r9 f51_l0 (ps, rp, ()) (a.1, a.2.1, a.2.2, ()) out sl mp (k : Int) (s[k].1, s[k].2.1, s[k].2.2, ()) (s[k].2.1 + a.1) (s[k].2.2 + a.2.1) s ((s.length : Nat) : Int) (k : Int) b =
        some ((out ++ (spF ps rp a (s.drop k) k mp).1, sl ++ (spF ps rp a (s.drop k) k mp).2, ()), ()) := by
      intro b hb
      unfold f51_r9
      rw [List.drop_eq_getElem_cons hkl]
      unfold spF
      rw [hb]
      cases b with
      | true =>
        have hih := ih (k + 1) out (sl ++ [(k : Int)]) mp (by omega) (by omega) (by omega) (by simp; omega) hmp
        rw [show ((k + 1 : Nat) : Int) = (k : Int) + 1 by omega] at hih
        rw [cond_true, cond_true, capB_t (by simp; omega), cond_true, joinK_val]
        unfold f51_k1
        rw [joinK_val]
        dsimp only
        rw [iadd64 (by unfold In64; omega)]
        refine Eq.trans hih ?_
        simp
      | false =>
        have ht : s[k].1 < (ps.length : Int) := by
          unfold silB at hb
          have := (Bool.or_eq_false_iff.1 hb).1
          have := of_decide_eq_false this
          omega
        have hih := ih (k + 1) (out ++ [plyF ps a s[k]]) sl (mput mp s[k].1 s[k].2.1) (by omega) (by omega) (by simp; omega) (by omega) (hmp.put hh)
        rw [show ((k + 1 : Nat) : Int) = (k : Int) + 1 by omega] at hih
        rw [cond_false, cond_false, inB_t hh.t0 ht, cond_true, capB_t (by simp; omega), cond_true, joinK_val]
        unfold f51_k1
        rw [joinK_val]
        dsimp only
        rw [iadd64 (by unfold In64; omega)]
        refine Eq.trans hih ?_
        simp
    rw [f51_l0_eq]
    unfold f51_b0
    rw [ilt_t (by omega), cond_true, inB_t (by omega) (by omega), cond_true, e]
    dsimp only
    rw [b1, b2, b3, b4, beq_f, beq_f, beq_t, beq_f]
    cases c1 : ile ((ps.length : Nat) : Int) s[k].1 with
    | true => rw [Bool.not_true, cond_false, joinK_val]; exact go true (by unfold silB; rw [c1]; rfl)
    | false =>
      rw [Bool.not_false, cond_true]
      cases c2 : ilt (s[k].2.2 - s[k].2.1) a.2.2 with
      | true => rw [Bool.not_true, cond_false, joinK_val]; exact go true (by unfold silB; rw [c1, c2]; rfl)
      | false =>
        rw [Bool.not_false, cond_true]
        cases c3 : mget mp s[k].1 with
        | none => rw [Option.isSome_none, cond_false, joinK_val]; exact go _ (by unfold silB; rw [c1, c2, c3]; rfl)
        | some v =>
          have hv := hmp _ _ c3
          have b5 : isub .i64 s[k].2.1 v = s[k].2.1 - v := isub64 (by unfold In64; omega)
          rw [Option.isSome_some, cond_true, Option.getD_some, b5]
          cases c4 : ilt (s[k].2.1 - v) (2 * rp) with
          | true => rw [Bool.not_true, cond_false, joinK_val]; exact go true (by unfold silB; rw [c1, c2, c3, Option.isSome_some, Option.getD_some, c4]; rfl)
          | false => rw [Bool.not_false, cond_true, joinK_val]; exact go _ (by unfold silB; rw [c1, c2, c3, Option.isSome_some, Option.getD_some, c4]; rfl)
include hs hg hp hr0 hr1 ha in
theorem f51_is : f51 (ps, rp) s a = some (((spF ps rp a s 0 []).1, (spF ps rp a s 0 []).2, ()), ()) := by
  unfold f51
  rw [joinK_val]
  have := spoken_at hs hg hp hr0 hr1 ha _ 0 [] [] [] rfl (Nat.zero_le _) (Nat.le_refl _) (Nat.le_refl _) (fun t v h => by cases h)
  refine Eq.trans this ?_
  simp
/-- The reference's row against the map. -/
def LastEq (m : List (Int × Int)) (q : List Int) : Prop := q.length = 20 ∧ ∀ t : Nat, t < 20 → q[t]? = some ((mget m (t : Int)).getD (-40))
theorem LastEq.put {m : List (Int × Int)} {q : List Int} {h : Note} (hm : LastEq m q) (hh : GoodH h) : LastEq (mput m h.1 h.2.1) (q.set h.1.toNat h.2.1) := by
  have h0 := hh.t0; have h1 := hh.t1
  refine ⟨by rw [List.length_set]; exact hm.1, fun t ht => ?_⟩
  rw [List.getElem?_set, mget_put2]
  by_cases he : h.1.toNat = t
  · rw [if_pos he, if_pos (by have := hm.1; omega), if_pos (by omega)]; rfl
  · rw [if_neg he, if_neg (by omega)]; exact hm.2 t ht
include hs hg hp hr0 hr1 ha in
theorem pyAll_at : ∀ (m k : Nat) (out : List Note) (sl : List Int) (mp : List (Int × Int)) (q : List Int), s.length - k = m → k ≤ s.length → out.length ≤ k → sl.length ≤ k → LastOk mp → LastEq mp q →
    f60_l2 ((ps, rp, ()), (a.1, a.2.1, a.2.2, ()), out, sl, q, s, ((s.length : Nat) : Int), (k : Int), ()) =
      some ((out ++ (spF ps rp a (s.drop k) k mp).1, sl ++ (spF ps rp a (s.drop k) k mp).2, ()), ()) := by
  intro m
  induction m with
  | zero =>
    intro k out sl mp q hm hk ho hsl hmp hq
    rw [f60_l2_eq]
    unfold f60_b2
    rw [ilt_f (by omega), cond_false, List.drop_eq_nil_of_le (by omega)]
    simp [spF]
  | succ m ih =>
    intro k out sl mp q hm hk ho hsl hmp hq
    have hkl : k < s.length := by omega
    have e : rdA (0, 0, 0) s (k : Int) = s[k] := rdA_nat hkl
    have hh := hg s[k] (List.getElem_mem hkl)
    have h1 := hh.f0; have h2 := hh.f1; have h3 := hh.o0; have h4 := hh.o1; have h5 := ha.d0; have h6 := ha.d1; have h7 := ha.r0; have h8 := ha.r1
    have t0 := hh.t0; have t1 := hh.t1; have hq1 := hq.1
    have b1 : isub .i64 s[k].2.2 s[k].2.1 = s[k].2.2 - s[k].2.1 := isub64 (by unfold In64; omega)
    have b2 : iadd .i64 s[k].2.1 a.1 = s[k].2.1 + a.1 := iadd64 (by unfold In64; omega)
    have b3 : iadd .i64 s[k].2.2 a.2.1 = s[k].2.2 + a.2.1 := iadd64 (by unfold In64; omega)
    have b4 : imul .i64 2 rp = 2 * rp := imul64 (by unfold In64; omega)
    have bq : rdA 0 q s[k].1 = (mget mp s[k].1).getD (-40) := by
      have h9 := hq.2 s[k].1.toNat (by omega)
      rw [show ((s[k].1.toNat : Nat) : Int) = s[k].1 by omega] at h9
      have := rdA_some (z := 0) h9
      rwa [show ((s[k].1.toNat : Nat) : Int) = s[k].1 by omega] at this
    have hv : -40 ≤ (mget mp s[k].1).getD (-40) ∧ (mget mp s[k].1).getD (-40) ≤ 1999 := by
      cases c3 : mget mp s[k].1 with
      | none => simp
      | some v => have := hmp _ _ c3; rw [Option.getD_some]; omega
    have b5 : isub .i64 s[k].2.1 ((mget mp s[k].1).getD (-40)) = s[k].2.1 - (mget mp s[k].1).getD (-40) := isub64 (by unfold In64; omega)
    have bc : ilt (s[k].2.1 - (mget mp s[k].1).getD (-40)) (2 * rp) = ((mget mp s[k].1).isSome && ilt (s[k].2.1 - (mget mp s[k].1).getD 0) (2 * rp)) := by
      cases c3 : mget mp s[k].1 with
      | none => rw [Option.getD_none, ilt_f (by omega)]; rfl
      | some v => rfl
    have go : ∀ b : Bool, silB ps rp a s[k] (mget mp s[k].1) = b → f60_r13 f60_l2 (ps, rp, ()) (a.1, a.2.1, a.2.2, ()) out sl q (k : Int) (s[k].1, s[k].2.1, s[k].2.2, ()) (s[k].2.1 + a.1) (s[k].2.2 + a.2.1) s ((s.length : Nat) : Int) (k : Int) b =
        some ((out ++ (spF ps rp a (s.drop k) k mp).1, sl ++ (spF ps rp a (s.drop k) k mp).2, ()), ()) := by
      intro b hb
      unfold f60_r13
      rw [List.drop_eq_getElem_cons hkl]
      unfold spF
      rw [hb]
      cases b with
      | true =>
        have hih := ih (k + 1) out (sl ++ [(k : Int)]) mp q (by omega) (by omega) (by omega) (by simp; omega) hmp hq
        rw [show ((k + 1 : Nat) : Int) = (k : Int) + 1 by omega] at hih
        rw [cond_true, cond_true, capB_t (by simp; omega), cond_true, joinK_val]
        unfold f60_k3
        rw [joinK_val]
        dsimp only
        rw [iadd64 (by unfold In64; omega)]
        refine Eq.trans hih ?_
        simp
      | false =>
        have ht : s[k].1 < (ps.length : Int) := by
          unfold silB at hb
          have := (Bool.or_eq_false_iff.1 hb).1
          have := of_decide_eq_false this
          omega
        have hih := ih (k + 1) (out ++ [plyF ps a s[k]]) sl (mput mp s[k].1 s[k].2.1) (q.set s[k].1.toNat s[k].2.1) (by omega) (by omega) (by simp; omega) (by omega) (hmp.put hh) (hq.put hh)
        rw [show ((k + 1 : Nat) : Int) = (k : Int) + 1 by omega] at hih
        rw [cond_false, cond_false, inB_t hh.t0 (by omega), cond_true, inB_t hh.t0 ht, cond_true, capB_t (by simp; omega), cond_true, joinK_val]
        unfold f60_k3
        rw [joinK_val]
        dsimp only
        rw [iadd64 (by unfold In64; omega)]
        refine Eq.trans hih ?_
        simp
    rw [f60_l2_eq]
    unfold f60_b2
    rw [ilt_t (by omega), cond_true, inB_t (by omega) (by omega), cond_true, e]
    dsimp only
    rw [b1, b2, b3, b4, beq_f, beq_f, beq_f, bq, b5, bc]
    cases c1 : ile ((ps.length : Nat) : Int) s[k].1 with
    | true => rw [Bool.not_true, cond_false, joinK_val]; exact go true (by unfold silB; rw [c1]; rfl)
    | false =>
      rw [Bool.not_false, cond_true]
      cases c2 : ilt (s[k].2.2 - s[k].2.1) a.2.2 with
      | true => rw [Bool.not_true, cond_false, joinK_val]; exact go true (by unfold silB; rw [c1, c2]; rfl)
      | false =>
        rw [Bool.not_false, cond_true, inB_t t0 (by omega), cond_true]
        cases c4 : ((mget mp s[k].1).isSome && ilt (s[k].2.1 - (mget mp s[k].1).getD 0) (2 * rp)) with
        | true => rw [Bool.not_true, cond_false, joinK_val]; exact go true (by unfold silB; rw [c1, c2, c4]; rfl)
        | false => rw [Bool.not_false, cond_true, joinK_val]; exact go _ (by unfold silB; rw [c1, c2, c4]; rfl)
include hs hg hp hr0 hr1 ha in
theorem pyAll_fill : ∀ (m k : Nat) (q : List Int), 20 - k = m → k ≤ 20 → q.length = 20 → (∀ t, t < k → q[t]? = some (-40)) →
    f60_l0 (s, (ps, rp, ()), (a.1, a.2.1, a.2.2, ()), [], [], q, 20, (k : Int), ()) = some (((spF ps rp a s 0 []).1, (spF ps rp a s 0 []).2, ()), ()) := by
  intro m
  induction m with
  | zero =>
    intro k q hm hk hq h
    rw [f60_l0_eq]
    unfold f60_b0
    rw [ilt_f (by omega), cond_false, joinK_val]
    have := pyAll_at hs hg hp hr0 hr1 ha _ 0 [] [] [] q rfl (Nat.zero_le _) (Nat.le_refl _) (Nat.le_refl _) (fun t v h => by cases h) ⟨hq, fun t ht => h t (by omega)⟩
    refine Eq.trans this ?_
    simp
  | succ m ih =>
    intro k q hm hk hq h
    have hih := ih (k + 1) (q.set k (-40)) (by omega) (by omega) (by rw [List.length_set]; exact hq) (fun t ht => by
      rw [List.getElem?_set]
      by_cases he : k = t
      · rw [if_pos he, if_pos (by omega)]
      · rw [if_neg he]; exact h t (by omega))
    rw [show ((k + 1 : Nat) : Int) = (k : Int) + 1 by omega] at hih
    rw [f60_l0_eq]
    unfold f60_b0
    rw [ilt_t (by omega), cond_true, inB_t (by omega) (by omega), cond_true, joinK_val, iadd64 (by unfold In64; omega), Int.toNat_natCast]
    exact hih
include hs hg hp hr0 hr1 ha in
theorem f60_is : f60 (ps, rp) s a = some (((spF ps rp a s 0 []).1, (spF ps rp a s 0 []).2, ()), ()) := by
  unfold f60
  rw [makeB_t (by omega) (by omega), cond_true, joinK_val]
  exact pyAll_fill hs hg hp hr0 hr1 ha 20 0 _ rfl (by omega) rfl (fun t h => by omega)
end
end Go.Proofs.Ytddabjnbpndjjaa.R
