/- Plans: the rest of what the law speaks of, and the law. -/
import Derived.Test.YtkkefapclohicaaDoorPTY
set_option linter.unusedVariables false
set_option linter.unusedSimpArgs false
namespace Go.Proofs.YtkkefapclohicaaDoor.R
def nl (s : ByteArray) : Nat := s.data.toList.count 10
theorem size_l (s : ByteArray) : s.data.toList.length = s.size := (Lib.size_eq s).symm
theorem bt_get {s : ByteArray} {i : Nat} (h : i < s.size) : bt s (i : Int) = ((s.data.toList[i]'(by rw [size_l]; exact h)).toNat : Int) := by
  unfold bt
  rw [Int.toNat_natCast, ByteArray.toList_eq]
  have : i < s.data.toList.length := by rw [size_l]; exact h
  simp [List.getD, List.getElem?_eq_getElem this]
theorem byte10 {c : UInt8} : ieq (c.toNat : Int) 10 = decide (c = 10) := by
  by_cases h : c = 10
  · subst h; rfl
  · rw [decide_eq_false h]
    refine ieq_f fun e => h ?_
    have e : c.toNat = 10 := by omega
    exact UInt8.toNat_inj.1 e
theorem eq_step {a b : List Int} {k : Nat} (ha : k < a.length) (hb : k < b.length) : decide (a.drop k = b.drop k) = (ieq a[k] b[k] && decide (a.drop (k + 1) = b.drop (k + 1))) := by
  rw [List.drop_eq_getElem_cons ha, List.drop_eq_getElem_cons hb]
  unfold ieq
  simp only [List.cons.injEq, Bool.decide_and]
theorem f24_at {a b : List Int} (hab : a.length = b.length) (hl : a.length ≤ 1000000) : ∀ (q k : Nat), a.length - k = q → k ≤ a.length → f24_l0 (a, b, ((a.length : Nat) : Int), (k : Int), ()) = some ((decide (a.drop k = b.drop k), ()), ()) := by
  intro q
  induction q with
  | zero =>
    intro k hq hk
    rw [f24_l0_eq]
    unfold f24_b0
    rw [ilt_f (by omega), cond_false, List.drop_eq_nil_of_le (by omega), List.drop_eq_nil_of_le (by omega)]
    rfl
  | succ q ih =>
    intro k hq hk
    have ha : k < a.length := by omega
    have hb : k < b.length := by omega
    have e1 : rdA 0 a (k : Int) = a[k] := rdA_nat ha
    have e2 : rdA 0 b (k : Int) = b[k] := rdA_nat hb
    have hih := ih (k + 1) (by omega) (by omega)
    rw [show ((k + 1 : Nat) : Int) = (k : Int) + 1 by omega] at hih
    rw [f24_l0_eq]
    unfold f24_b0
    rw [ilt_t (by omega), cond_true, inB_t (by omega) (by omega), cond_true, inB_t (by omega) (by omega), cond_true, e1, e2, eq_step ha hb]
    cases ieq a[k] b[k] with
    | false => rfl
    | true => rw [Bool.not_true, cond_false, joinK_val, iadd64 (by unfold In64; omega), Bool.true_and]; exact hih
theorem f24_is (a b : List Int) (hl : a.length ≤ 1000000) : f24 a b = some ((decide (a = b), ()), ()) := by
  unfold f24
  by_cases h : a.length = b.length
  · rw [ieq_t (by omega), Bool.not_true, cond_false, joinK_val]
    exact f24_at h hl _ 0 rfl (Nat.zero_le _)
  · rw [ieq_f (by omega), Bool.not_false, cond_true, decide_eq_false (fun e => h (by rw [e]))]
theorem f25_at {l : List Int} (n : Int) (hl : l.length ≤ 1000000) : ∀ (q k : Nat), l.length - k = q → k ≤ l.length → f25_l0 (n, l, ((l.length : Nat) : Int), (k : Int), ()) = some ((decide (n ∈ l.drop k), ()), ()) := by
  intro q
  induction q with
  | zero =>
    intro k hq hk
    rw [f25_l0_eq]
    unfold f25_b0
    rw [ilt_f (by omega), cond_false, List.drop_eq_nil_of_le (by omega)]
    rfl
  | succ q ih =>
    intro k hq hk
    have hkl : k < l.length := by omega
    have e : rdA 0 l (k : Int) = l[k] := rdA_nat hkl
    have hih := ih (k + 1) (by omega) (by omega)
    rw [show ((k + 1 : Nat) : Int) = (k : Int) + 1 by omega] at hih
    rw [f25_l0_eq]
    unfold f25_b0
    rw [ilt_t (by omega), cond_true, inB_t (by omega) (by omega), cond_true, e, List.drop_eq_getElem_cons hkl]
    by_cases h : l[k] = n
    · rw [ieq_t h, cond_true, decide_eq_true (List.mem_cons.2 (.inl h.symm))]
    · rw [ieq_f h, cond_false, joinK_val, iadd64 (by unfold In64; omega), hih]
      have : (n ∈ l[k] :: l.drop (k + 1)) ↔ n ∈ l.drop (k + 1) := by rw [List.mem_cons]; exact ⟨fun h2 => h2.resolve_left (fun e => h e.symm), .inr⟩
      rw [decide_eq_decide.2 this]
theorem f25_is (l : List Int) (n : Int) (hl : l.length ≤ 1000000) : f25 l n = some ((decide (n ∈ l), ()), ()) := by
  unfold f25
  rw [joinK_val]
  exact f25_at n hl _ 0 rfl (Nat.zero_le _)
/-! lines of a text -/
theorem qLines_go {s : ByteArray} (hs : s.size ≤ 1073741800) : ∀ (m k : Nat) (n : Int), s.size - k = m → k ≤ s.size → 0 ≤ n → n ≤ (k : Int) → f26_l0 (s, n, (k : Int), ()) = some ((n + ((s.data.toList.drop k).count 10 : Nat), ()), ()) := by
  intro m
  induction m with
  | zero =>
    intro k n hm hk h0 h1
    have : s.data.toList.drop k = [] := List.drop_eq_nil_of_le (by rw [size_l]; omega)
    rw [f26_l0_eq]
    unfold f26_b0
    rw [ilt_f (by omega), cond_false, this]
    simp
  | succ m ih =>
    intro k n hm hk h0 h1
    have hks : k < s.size := by omega
    have hkl : k < s.data.toList.length := by rw [size_l]; exact hks
    have ei : iadd .i64 (k : Int) 1 = ((k + 1 : Nat) : Int) := by rw [iadd64 (by unfold In64; omega)]; rfl
    rw [f26_l0_eq]
    unfold f26_b0
    rw [ilt_t (by omega), cond_true, inB_t (by omega) (by omega), cond_true, bt_get hks, byte10, List.drop_eq_getElem_cons hkl, List.count_cons]
    by_cases h : s.data.toList[k] = 10
    · rw [decide_eq_true h, cond_true, joinK_val, iadd64 (by unfold In64; omega)]
      unfold f26_c14
      dsimp only
      rw [joinK_val, ei, ih (k + 1) _ (by omega) (by omega) (by omega) (by omega), h]
      simp
      omega
    · rw [decide_eq_false h, cond_false, joinK_val]
      unfold f26_c14
      dsimp only
      rw [joinK_val, ei, ih (k + 1) _ (by omega) (by omega) (by omega) (by omega)]
      have : (s.data.toList[k] == 10) = false := by simpa using h
      rw [this]
      simp
theorem qLines_is {s : ByteArray} (hs : s.size ≤ 1073741800) : f26 s = some ((((nl s : Nat) : Int), ()), ()) := by
  unfold f26
  rw [joinK_val]
  have := qLines_go hs _ 0 0 rfl (Nat.zero_le _) (Int.le_refl _) (Int.le_refl _)
  rw [List.drop_zero] at this
  refine Eq.trans this ?_
  simp [nl]
theorem nl_app (a b : ByteArray) : nl (a ++ b) = nl a + nl b := by
  unfold nl
  rw [ByteArray.data_append, Array.toList_append, List.count_append]
theorem digits_ge : ∀ (n : Nat), ∀ c ∈ Lib.decDigits n, c ≠ 10 := by
  intro n
  induction n using Nat.strongRecOn with
  | _ n ih =>
    have small : ∀ d : Nat, d < 10 → UInt8.ofNat (48 + d) ≠ 10 := by decide
    intro c hc
    by_cases h : n < 10
    · rw [Lib.decDigits_one h] at hc
      rw [List.mem_singleton.1 hc]
      exact small n h
    · rw [decDigits_more h] at hc
      rcases List.mem_append.1 hc with h' | h'
      · exact ih (n / 10) (by omega) c h'
      · rw [List.mem_singleton.1 h']
        exact small (n % 10) (by omega)
theorem nl_num (n : Nat) : nl (numB n) = 0 := by
  unfold nl
  refine List.count_eq_zero.2 fun h => ?_
  exact digits_ge n 10 h rfl
theorem nl_line (k d due : Int) (s : ByteArray) : nl (lineP k d due (wordsB k d) s) = nl s + 1 := by
  have w : nl (wordsB k d) = 0 := by
    unfold wordsB
    rw [nl_app, nl_app, nl_num, nl_num]
    rfl
  have n1 : nl (ByteArray.mk #[10]) = 1 := rfl
  have n2 : nl (ByteArray.mk #[32, 108, 97, 116, 101]) = 0 := rfl
  by_cases h : due < d
  · rw [lineP_late h, nl_app, nl_app, nl_app, w, n1, n2]
  · rw [lineP_on h, nl_app, nl_app, w, n1]
section
variable {l : List Job} {o : List Int}
theorem planL_count (hlen : l.length ≤ 12) {F : List Int} (hF : F.length = l.length) (hA : AllIn 360 F) : ∀ (o : List Int) (s fin : ByteArray), Rng l o → planL l F o s = some fin → nl fin = nl s + o.length
  | [], s, fin, _, h => by
    have h : some s = some fin := h
    rw [Option.some.inj h]
    rfl
  | y :: o, s, fin, hr, h => by
    obtain ⟨y0, y1⟩ := hr y List.mem_cons_self
    have hyF : y.toNat < F.length := by omega
    have hd := hA F[y.toNat] (List.getElem_mem hyF)
    have e3 : F.getD y.toNat 0 = F[y.toNat] := by simp [List.getD, hyF]
    unfold planL at h
    rw [inB_t (by omega) (by omega), inB_t (by omega) (by omega), Bool.and_self, cond_true, e3, words_is (by omega) (by omega) (by omega) (by omega), bind_val] at h
    dsimp only at h
    obtain ⟨h1, h2⟩ := cond_some h
    have h1 := of_decide_eq_true h1
    have e1 := planL_count hlen hF hA o _ _ (fun z hz => hr z (List.mem_cons_of_mem _ hz)) h2
    rw [e1, nl_line, List.length_cons]
    omega
theorem planL_size (hlen : l.length ≤ 12) {F : List Int} (hF : F.length = l.length) (hA : AllIn 360 F) : ∀ (o : List Int) (s fin : ByteArray), Rng l o → planL l F o s = some fin → fin.size ≤ s.size + 15 * o.length
  | [], s, fin, _, h => by
    have h : some s = some fin := h
    rw [Option.some.inj h]
    simp
  | y :: o, s, fin, hr, h => by
    obtain ⟨y0, y1⟩ := hr y List.mem_cons_self
    have hyF : y.toNat < F.length := by omega
    have hd := hA F[y.toNat] (List.getElem_mem hyF)
    have e3 : F.getD y.toNat 0 = F[y.toNat] := by simp [List.getD, hyF]
    unfold planL at h
    rw [inB_t (by omega) (by omega), inB_t (by omega) (by omega), Bool.and_self, cond_true, e3, words_is (by omega) (by omega) (by omega) (by omega), bind_val] at h
    dsimp only at h
    obtain ⟨h1, h2⟩ := cond_some h
    have e1 := planL_size hlen hF hA o _ _ (fun z hz => hr z (List.mem_cons_of_mem _ hz)) h2
    have e2 := (line_size (k := y) (d := F[y.toNat]) (due := (l.getD y.toNat (0, 0, 0)).2.1) (s := s) (by omega) (by omega) (by omega) (by omega)).2
    rw [List.length_cons]
    omega
theorem tot_in2 (hp : Plan l) (ho : Ord l o) : csum false l o 0 ≤ 100000 := by
  have a := lateL_len hp ho
  have b := lateG_len l (finD l o) 0
  have c := (tot_in false l (finD l o) (fun x hx => by have := plan_mem hp hx; omega) (finD_in hp ho)).2
  have d := hp.len
  have e : lateL l o = lateG 0 l (finD l o) := rfl
  rw [e] at a
  omega
def txR (l : List Job) (o : List Int) (s : ByteArray) : ByteArray × Bool × Unit := cond (okO l o) (s, true, ()) (ByteArray.mk #[], false, ())
theorem text_more (hl : l.length ≤ 1000000) (ho : o.length ≤ 1000000) : ∃ s : ByteArray, f12 l o = some (txR l o s, ()) ∧ f9 l o = some (txR l o s, ()) ∧ (okO l o = true → nl s = l.length ∧ s.size ≤ 1000) := by
  unfold f12 f9 txR
  rw [decide_eq_true (by omega), decide_eq_true (by omega), Bool.and_self, cond_true, f41_is (by omega) (by omega), f35_is (by omega) (by omega), bind_val, bind_val]
  dsimp only
  cases h : okO l o with
  | false => exact ⟨ByteArray.mk #[], rfl, rfl, fun h => by cases h⟩
  | true =>
    obtain ⟨hg, hO⟩ := okO_of h
    have hp := goodP_plan hg
    have h12 : o.length ≤ 12 := by rw [hO.len]; exact hp.len
    obtain ⟨r, hr, hr1, hr2⟩ := late_is hp hO.rng (by omega)
    obtain ⟨fin, f1, f2⟩ := lines_go hp hO.rng h12 (finD_len l o) (finD_in hp hO) hr1 hr2 _ 0 (ByteArray.mk #[]) rfl (Nat.zero_le _) (by decide)
    have hfl := finD_len l o
    have hpl := hp.len
    have f1 : planL l (finD l o) o (ByteArray.mk #[]) = some fin := f1
    have hc := planL_count hpl hfl (finD_in hp hO) o _ _ hO.rng f1
    have hz := planL_size hpl hfl (finD_in hp hO) o _ _ hO.rng f1
    refine ⟨fin, ?_, ?_, fun _ => ⟨?_, ?_⟩⟩
    · rw [cond_true, f42_i hp hO.rng (by omega), bind_val]
      dsimp only
      rw [decide_eq_true (by omega), cond_true, f1, bind_val]
      rfl
    · rw [Bool.not_true, cond_false, f36_i hp hO.rng (by omega), bind_val, hr, bind_val, joinK_val]
      exact f2
    · rw [hc, hO.len]
      show 0 + _ = _
      omega
    · have e0 : (ByteArray.mk #[]).size = 0 := rfl
      omega
theorem f37_go {acc : List Int} (hl : l.length ≤ 1000000) (ha : acc.length = l.length) : ∀ (m k : Nat) (out : List Int), l.length - k = m → k ≤ l.length → out.length ≤ k →
    f37_l0 (l, out, acc, ((acc.length : Nat) : Int), (k : Int), ()) = some ((out ++ lateG k (l.drop k) (acc.drop k), ()), ()) := by
  intro m
  induction m with
  | zero =>
    intro k out hm hk ho
    rw [f37_l0_eq]
    unfold f37_b0
    rw [ilt_f (by omega), cond_false, List.drop_eq_nil_of_le (by omega), List.drop_eq_nil_of_le (by omega), lateG, List.append_nil]
    all_goals intros; simp_all
  | succ m ih =>
    intro k out hm hk ho
    have hkl : k < l.length := by omega
    have hka : k < acc.length := by omega
    have e : rdA (0, 0, 0) l (k : Int) = l[k] := rdA_nat hkl
    have ea : rdA 0 acc (k : Int) = acc[k] := rdA_nat hka
    have k1 : iadd .i64 (k : Int) 1 = ((k + 1 : Nat) : Int) := by rw [iadd64 (by unfold In64; omega)]; omega
    rw [f37_l0_eq]
    unfold f37_b0
    rw [ilt_t (by omega), cond_true, inB_t (by omega) (by omega), cond_true, inB_t (by omega) (by omega), cond_true, e, ea, lateG_drop hkl hka]
    cases ilt l[k].2.1 acc[k] with
    | true =>
      rw [cond_true, capB_t (by simp; omega), cond_true, joinK_val, f37_c23, joinK_val, k1]
      have := ih (k + 1) (out ++ [(k : Int)]) (by omega) (by omega) (by simp; omega)
      rw [List.append_assoc] at this
      exact this
    | false =>
      rw [cond_false, joinK_val, f37_c23, joinK_val, k1]
      exact ih (k + 1) out (by omega) (by omega) (by omega)
theorem specLate_is (hl : l.length ≤ 1000000) (ho : o.length ≤ 1000000) : f21 l o = some (laR l o, ()) := by
  unfold f21 laR
  rw [f35_is hl ho, bind_val]
  cases h : okO l o with
  | false => rfl
  | true =>
    obtain ⟨g1, g2⟩ := okO_of h
    have hp := goodP_plan g1
    have hlen := hp.len
    have := f37_go (l := l) hl (finD_len l o) _ 0 [] rfl (Nat.zero_le _) (Nat.le_refl _)
    rw [List.drop_zero, List.drop_zero] at this
    dsimp only
    rw [Bool.not_true, cond_false]
    unfold f37
    rw [f36_i hp g2.rng (by rw [g2.len]; omega), bind_val, joinK_val]
    dsimp only
    have this : f37_l0 (l, [], finD l o, (((finD l o).length : Nat) : Int), 0, ()) = some ((lateL l o, ()), ()) := this
    rw [this, bind_val, cond_true]
theorem specSum_is (hl : l.length ≤ 1000000) (ho : o.length ≤ 1000000) : f23 l o = some (wsR l o, ()) := by
  unfold f23 wsR
  rw [f35_is hl ho, bind_val]
  cases h : okO l o with
  | false => rfl
  | true =>
    obtain ⟨g1, g2⟩ := okO_of h
    dsimp only
    rw [Bool.not_true, cond_false, f51_is (goodP_plan g1) g2, bind_val]
    rfl
def fdR (l : List Job) (o : List Int) : List Int × Bool × Unit := cond (okO l o) (finD l o, true, ()) ([], false, ())
theorem specDays_is (hl : l.length ≤ 1000000) (ho : o.length ≤ 1000000) : f17 l o = some (fdR l o, ()) := by
  unfold f17 fdR
  rw [f35_is hl ho, bind_val]
  cases h : okO l o with
  | false => rfl
  | true =>
    obtain ⟨g1, g2⟩ := okO_of h
    have hlen := (goodP_plan g1).len
    dsimp only
    rw [Bool.not_true, cond_false, f36_i (goodP_plan g1) g2.rng (by rw [g2.len]; omega), bind_val]
    rfl
theorem implDays_is (hl : l.length ≤ 1000000) (ho : o.length ≤ 1000000) : f16 l o = some (fdR l o, ()) := by
  unfold f16 fdR
  rw [f41_is hl ho, bind_val]
  cases h : okO l o with
  | false => rfl
  | true =>
    obtain ⟨g1, g2⟩ := okO_of h
    have hlen := (goodP_plan g1).len
    dsimp only
    rw [Bool.not_true, cond_false, f42_i (goodP_plan g1) g2.rng (by rw [g2.len]; omega), bind_val]
    rfl
theorem mem_lateG (x : Int) : ∀ (l : List Job) (acc : List Int) (k : Nat), x ∈ lateG k l acc ↔ ∃ (i : Nat) (h1 : i < l.length) (h2 : i < acc.length), x = ((k + i : Nat) : Int) ∧ l[i].2.1 < acc[i]
  | [], acc, k => by simp [lateG]
  | a :: l, [], k => by simp [lateG]
  | a :: l, d :: acc, k => by
    have ih := mem_lateG x l acc (k + 1)
    have hh : (∃ (i : Nat) (h1 : i < (a :: l).length) (h2 : i < (d :: acc).length), x = ((k + i : Nat) : Int) ∧ (a :: l)[i].2.1 < (d :: acc)[i]) ↔ (x = (k : Int) ∧ a.2.1 < d) ∨ ∃ (i : Nat) (h1 : i < l.length) (h2 : i < acc.length), x = ((k + 1 + i : Nat) : Int) ∧ l[i].2.1 < acc[i] := by
      constructor
      · rintro ⟨i, h1, h2, h3, h4⟩
        cases i with
        | zero => exact .inl ⟨by rw [h3]; omega, h4⟩
        | succ i => exact .inr ⟨i, by simpa using h1, by simpa using h2, by rw [h3]; omega, h4⟩
      · rintro (⟨h3, h4⟩ | ⟨i, h1, h2, h3, h4⟩)
        · exact ⟨0, by simp, by simp, by rw [h3]; omega, h4⟩
        · exact ⟨i + 1, by simpa using h1, by simpa using h2, by rw [h3]; omega, h4⟩
    rw [hh]
    simp only [lateG]
    by_cases h : a.2.1 < d
    · rw [ilt_t h, cond_true, List.mem_cons, ih]
      exact ⟨fun h' => h'.imp (fun e => ⟨e, h⟩) id, fun h' => h'.imp (fun e => e.1) id⟩
    · rw [ilt_f h, cond_false, ih]
      exact ⟨.inr, fun h' => h'.resolve_left (fun e => h e.2)⟩
theorem mem_late {i : Nat} (h : i < l.length) {F : List Int} (h2 : F.length = l.length) : (i : Int) ∈ lateG 0 l F ↔ l[i].2.1 < F[i]'(by omega) := by
  rw [mem_lateG]
  constructor
  · rintro ⟨j, h1, h2, h3, h4⟩
    obtain rfl : i = j := by omega
    exact h4
  · intro h3
    exact ⟨i, h, by omega, by omega, h3⟩
/-! none is late -/
theorem zero_late (hp : Plan l) (ho : Ord l o) : csum false l o 0 = 0 ↔ worstV l o ≤ 0 := by
  have hlen := lateL_len hp ho
  have hF := finD_len l o
  rw [← hlen]
  constructor
  · intro h
    have hn : lateL l o = [] := List.eq_nil_of_length_eq_zero (by omega)
    rcases wlG_is l (finD l o) (-1000) with e | ⟨i, h1, h2, e⟩
    · unfold worstV; omega
    · have : ¬ l[i].2.1 < (finD l o)[i] := fun hlt => by
        have := (mem_lateG (i : Int) l (finD l o) 0).2 ⟨i, h1, h2, by omega, hlt⟩
        have this : (i : Int) ∈ lateL l o := this
        rw [hn] at this
        cases this
      unfold worstV
      omega
  · intro h
    have hn : lateL l o = [] := by
      refine List.eq_nil_iff_forall_not_mem.2 fun x hx => ?_
      obtain ⟨i, h1, h2, _, h4⟩ := (mem_lateG x l (finD l o) 0).1 hx
      have := wlG_at l (finD l o) (-1000) i h1 h2
      unfold worstV at h
      omega
    rw [hn]; rfl
/-! the law -/
theorem law_end (hl : l.length ≤ 12) (hg : goodP l = true) (hO : Ord l o) {one : Bool} {worst : Int} (hW : one = true → worst = worstV l o) (h1 : one = true → 0 < l.length) : f5_r26 l one worst (lateL l o) (wsum l o) false = some ((true, ()), ()) := by
  have hp := goodP_plan hg
  obtain ⟨b, n, f, k, b1, b2, f1, f2, B, F⟩ := best_yes (by omega) hg
  have k1 := F.low o hO
  have n1 := B.low o hO
  rw [← lateL_len hp hO] at k1
  rw [← wsum_csum hp hO] at n1
  have hd := ordD_ord l
  unfold f5_r26
  rw [cond_false, f1, f2, b1, b2]
  simp only [bind_val, Bool.not_true, beq_f, Bool.not_false, cond_true, ieq_t, joinK_val, ilt_f (show ¬ ((lateL l o).length : Int) < k by omega), ilt_f (show ¬ wsum l o < n by omega), f5_r32, cond_false]
  cases one with
  | false => rfl
  | true =>
    obtain rfl := hW rfl
    obtain ⟨r, r1, r2, r3⟩ := late_yes (by omega) hg (h1 rfl)
    have hw : r = worstV l (ordD l l.length) := by
      have := implWorst_is (l := l) (o := ordD l l.length) (by omega) (by rw [ordD_len]; omega)
      rw [r3] at this
      have h0 := h1 rfl
      have e : wlR l (ordD l l.length) = (worstV l (ordD l l.length), true, ()) := by
        unfold wlR
        rw [okO_t hg hd, decide_eq_false (by omega)]
        rfl
      rw [e] at this
      have := Option.some.inj this
      exact congrArg (fun q => q.1.1) this
    have hle := least_late hp hO
    rw [← hw] at hle
    have hz : ieq k 0 = ile r 0 := by
      have z1 := zero_late hp F.ord
      have z2 := zero_late hp hd
      have z3 := F.low _ hd
      have z4 := lateL_len hp hd
      have z5 := lateL_len hp F.ord
      have z6 := least_late hp F.ord
      have s1 := F.sum
      rw [← hw] at z2 z6
      by_cases hk : k = 0
      · have : r ≤ 0 := Int.le_trans z6 (z1.1 (s1.trans hk))
        rw [ieq_t hk, ile_t this]
      · have : ¬ r ≤ 0 := fun h => hk (by
          have := z2.2 h
          omega)
        rw [ieq_f hk, ile_f this]
    have z1 : ∀ t : Bool, beq_ t t = true := fun t => by cases t <;> rfl
    rw [cond_true, r1, r2]
    simp only [bind_val, Bool.not_true, beq_f, Bool.not_false, cond_true, ieq_t, joinK_val, ilt_f (show ¬ worstV l o < r by omega), hz, z1, f5_r37, f5_c305, cond_false]
theorem law_go (hg : goodP l = true) (hO : Ord l o) {one : Bool} {worst : Int} (hW : one = true → worst = worstV l o) (h1 : one = true → 0 < l.length) {s : ByteArray} (hs : nl s = l.length) (hz : s.size ≤ 1000) : ∀ (m k : Nat) (all : Int), l.length - k = m → k ≤ l.length → all + tot true (l.drop k) ((finD l o).drop k) = wsum l o → 0 ≤ all → all ≤ 7200 * (k : Int) →
    f5_l0 (l, finD l o, one, worst, lateL l o, wsum l o, s, all, ((l.length : Nat) : Int), (k : Int), ()) = some ((true, ()), ()) := by
  have hp := goodP_plan hg
  have hlen := hp.len
  have hF := finD_len l o
  have hA := finD_in hp hO
  have hll : (lateL l o).length ≤ 1000000 := by
    have a := lateL_len hp hO
    have b := tot_in2 hp hO
    omega
  intro m
  induction m with
  | zero =>
    intro k all hm hk ha h0 h2
    have e0 : tot true ([] : List Job) ((finD l o).drop k) = 0 := by cases (finD l o).drop k <;> rfl
    rw [List.drop_eq_nil_of_le (show l.length ≤ k by omega), e0] at ha
    rw [f5_l0_eq]
    unfold f5_b0
    rw [ilt_f (by omega), cond_false, ieq_t (by omega), Bool.not_true, beq_f, Bool.not_false, cond_true, qLines_is (by omega), bind_val, joinK_val]
    dsimp only
    rw [hs, ieq_t rfl, Bool.not_true]
    exact law_end hlen hg hO hW h1
  | succ m ih =>
    intro k all hm hk ha h0 h2
    have hkl : k < l.length := by omega
    have hkF : k < (finD l o).length := by omega
    have e : rdA (0, 0, 0) l (k : Int) = l[k] := rdA_nat hkl
    have ea : rdA 0 (finD l o) (k : Int) = (finD l o)[k] := rdA_nat hkF
    have hx := hp.ok k hkl
    have hv := hA (finD l o)[k] (List.getElem_mem hkF)
    have m0 : 0 ≤ l[k].2.2 * (finD l o)[k] := Int.mul_nonneg hx.2.2.2.2.1 hv.1
    have m1 : l[k].2.2 * (finD l o)[k] ≤ 20 * 360 := Int.mul_le_mul hx.2.2.2.2.2 hv.2 hv.1 (by omega)
    have hw := wlG_at l (finD l o) (-1000) k hkl hkF
    have hw : ¬ worstV l o < (finD l o)[k] - l[k].2.1 := by unfold worstV; omega
    have hmem : decide ((k : Int) ∈ lateL l o) = ilt l[k].2.1 (finD l o)[k] := by
      unfold ilt
      refine decide_eq_decide.2 ?_
      exact mem_late hkl hF
    have ei : iadd .i64 (k : Int) 1 = ((k + 1 : Nat) : Int) := by rw [iadd64 (by unfold In64; omega)]; rfl
    have ht := tot_drop true hkl hkF
    have hc : costJ true l[k] (finD l o)[k] = l[k].2.2 * (finD l o)[k] := rfl
    rw [hc] at ht
    have z1 : ∀ t : Bool, beq_ t t = true := fun t => by cases t <;> rfl
    rw [f5_l0_eq]
    unfold f5_b0
    have b1 : inB (k : Int) l.length = true := inB_t (by omega) (by omega)
    have b2 : inB (k : Int) (finD l o).length = true := inB_t (by omega) (by omega)
    have hq := f25_is (lateL l o) (k : Int) hll
    rw [ilt_t (by omega), cond_true, b1, cond_true, b2, cond_true, hq, bind_val]
    dsimp only
    rw [cond_true, e, ea, hmem, z1, Bool.not_true, beq_f, Bool.not_false, cond_true, imul64 (by unfold In64; omega), iadd64 (by unfold In64; omega), isub64 (by unfold In64; omega)]
    have fin : f5_r23 f5_l0 l (finD l o) one worst (lateL l o) (wsum l o) s (all + l[k].2.2 * (finD l o)[k]) ((l.length : Nat) : Int) (k : Int) false = some ((true, ()), ()) := by
      unfold f5_r23
      rw [cond_false, joinK_val, ei]
      exact ih (k + 1) _ (by omega) (by omega) (by omega) (by omega) (by omega)
    cases one with
    | false => exact fin
    | true =>
      rw [ilt_f (show ¬ worst < (finD l o)[k] - l[k].2.1 by rw [hW rfl]; exact hw)]
      exact fin
theorem draw_t {code : List Int} (hc : CodeOk code) : Tot (fun (r : (List Job × List Int × Unit) × Unit) => r.1.1.length ≤ 13 ∧ r.1.2.1.length ≤ 14) (f15 code) := by
  unfold f15
  refine Tot.bind (f47_t hc (by omega) (cur_new code)) ?_
  rintro r ⟨hl, hk⟩
  refine Tot.bind (f48_t hc (by omega) hk hl) ?_
  rintro r2 ⟨hl2, hk⟩
  exact Tot.ret ⟨hl, by dsimp only; omega⟩
end
theorem Pure.FnPlans (x0 : List Int) (x1 : List Int) (ok0 : List.length x0 ≤ 9223372036854775807 ∧ AllL In8 x0) (ok1 : List.length x1 ≤ 9223372036854775807 ∧ AllL In8 x1) : f5 x0 x1 = some ((true, ()), ()) := by
  unfold f5
  cases hbig : ilt 1048576 (iadd .i64 ((x0.length : Nat) : Int) ((x1.length : Nat) : Int)) with
  | true => rfl
  | false =>
    rw [cond_false]
    obtain ⟨r1, el, hl, ho⟩ := draw_t (codeOk ok0.2)
    obtain ⟨⟨l, o, _⟩, _⟩ := r1
    dsimp only at hl ho
    have z1 : ∀ t : Bool, beq_ t t = true := fun t => by cases t <;> rfl
    have q0 : ∀ o : List Int, o.length ≤ 1000000 → f24 o o = some ((true, ()), ()) := fun o h => by rw [f24_is _ _ h, decide_eq_true rfl]
    have s1 : ∀ s : ByteArray, (s.toList == s.toList) = true := fun s => beq_self_eq_true _
    have a1 := implDays_is (l := l) (o := o) (by omega) (by omega)
    have a2 := specDays_is (l := l) (o := o) (by omega) (by omega)
    have a3 := implWorst_is (l := l) (o := o) (by omega) (by omega)
    have a4 := specWorst_is (l := l) (o := o) (by omega) (by omega)
    have a5 := f20_is (l := l) (o := o) (by omega) (by omega)
    have a6 := specLate_is (l := l) (o := o) (by omega) (by omega)
    have a7 := f22_is (l := l) (o := o) (by omega) (by omega)
    have a8 := specSum_is (l := l) (o := o) (by omega) (by omega)
    obtain ⟨s, a9, a10, hs⟩ := text_more (l := l) (o := o) (by omega) (by omega)
    rw [el, bind_val]
    dsimp only
    rw [a1, bind_val, a2, bind_val, a3, bind_val, a4, bind_val, a5, bind_val, a6, bind_val, a7, bind_val, a8, bind_val, a9, bind_val, a10, bind_val]
    unfold fdR wlR laR wsR txR
    cases h : okO l o with
    | false =>
      simp only [cond_false, Bool.false_and, z1, beq_t, Bool.not_true, beq_f, Bool.not_false, cond_true, q0 [] (by simp), bind_val, ieq_t, s1, joinK_val, f5_r14]
    | true =>
      obtain ⟨hg, hO⟩ := okO_of h
      have hp := goodP_plan hg
      have hlen := hp.len
      have hF := finD_len l o
      obtain ⟨t1, t2⟩ := hs h
      have hll : (lateL l o).length ≤ 1000000 := by
        have a := lateL_len hp hO
        have b := tot_in2 hp hO
        omega
      have hstart := fun (one : Bool) (worst : Int) (hW : one = true → worst = worstV l o) (h1 : one = true → 0 < l.length) => law_go hg hO hW h1 t1 t2 _ 0 0 rfl (Nat.zero_le _) (by rw [List.drop_zero, List.drop_zero]; exact Int.zero_add _) (Int.le_refl _) (by omega)
      by_cases h0 : l.length = 0
      · rw [decide_eq_true h0]
        simp only [cond_true, Bool.not_true, Bool.and_false, cond_false, z1, beq_f, beq_t, Bool.not_false, q0 (finD l o) (by omega), q0 (lateL l o) hll, bind_val, ieq_t, s1, joinK_val, f5_r14, ilt_f (show ¬ (0 : Int) < ((l.length : Nat) : Int) by omega)]
        exact hstart false 0 (fun h => by cases h) (fun h => by cases h)
      · rw [decide_eq_false h0]
        simp only [cond_true, Bool.not_true, Bool.and_true, cond_false, z1, beq_f, beq_t, Bool.not_false, q0 (finD l o) (by omega), q0 (lateL l o) hll, bind_val, ieq_t, s1, joinK_val, f5_r14, ilt_t (show (0 : Int) < ((l.length : Nat) : Int) by omega)]
        exact hstart true _ (fun _ => rfl) (fun _ => by omega)
end Go.Proofs.YtkkefapclohicaaDoor.R
