/- Snaps: whatever is drawn, the law gives true. -/
import Derived.Test.YtbkihiggkaabmaaSN4
set_option linter.unusedVariables false
set_option linter.unusedSimpArgs false
namespace Go.Proofs.Ytbkihiggkaabmaa.R
theorem codeOk {l : List Int} (ha : AllL In8 l) : CodeOk l := ⟨fun b hb => ha b hb⟩
/-! the greatest grid that is allowed -/
def IsGrid (l : List Note) (most b : Int) : Prop := (1 ≤ b ∧ b ≤ 24) ∧ errS b l ≤ most ∧ ∀ k, b < k → k ≤ 24 → most < errS k l
theorem errS_one {l : List Note} : errS 1 l = 0 := by
  induction l with
  | nil => rfl
  | cons x l ih =>
    have : snapS x.2.1 1 = x.2.1 := snap_self (by omega) (by omega)
    simp only [errS, offN, ih, this]
    omega
theorem f102_go {l : List Note} (hs : Starts l) (hl : l.length ≤ 1000) {most : Int} (h0 : 0 ≤ most) : ∀ (m : Nat) (g : Int), g = (m : Int) + 1 → g ≤ 24 → (∀ k, g < k → k ≤ 24 → most < errS k l) → ∃ b, f102_l0 (l, most, g, ()) = some ((b, true, ()), ()) ∧ IsGrid l most b := by
  intro m
  induction m with
  | zero =>
    intro g hg hg2 hk
    have : g = 1 := by omega
    subst this
    refine ⟨1, ?_, ⟨by omega, by omega⟩, by rw [errS_one]; exact h0, hk⟩
    rw [f102_l0_eq]
    unfold f102_b0
    rw [f204_is (by omega) (by omega) hs hl, bind_val]
    dsimp only
    rw [errS_one, ilt_f (by omega), cond_false]
  | succ m ih =>
    intro g hg hg2 hk
    by_cases h : most < errS g l
    · obtain ⟨b, e, hb⟩ := ih (g - 1) (by omega) (by omega) (fun k h1 h2 => by
        by_cases e : k = g
        · rw [e]; exact h
        · exact hk k (by omega) h2)
      refine ⟨b, ?_, hb⟩
      rw [f102_l0_eq]
      unfold f102_b0
      rw [f204_is (by omega) (by omega) hs hl, bind_val]
      dsimp only
      rw [ilt_t h, cond_true, joinK_val, isub64 (by unfold In64; omega)]
      exact e
    · refine ⟨g, ?_, ⟨by omega, hg2⟩, by omega, hk⟩
      rw [f102_l0_eq]
      unfold f102_b0
      rw [f204_is (by omega) (by omega) hs hl, bind_val]
      dsimp only
      rw [ilt_f h, cond_false]
theorem f103_go {l : List Note} (hs : Starts l) (hl : l.length ≤ 1000) {most : Int} : ∀ (m : Nat) (g b : Int), 25 - g = (m : Int) → 1 ≤ g → (1 ≤ b ∧ b ≤ 24) → errS b l ≤ most → (∀ k, b < k → k < g → most < errS k l) → ∃ b', f103_l0 (l, most, b, g, ()) = some ((b', true, ()), ()) ∧ IsGrid l most b' := by
  intro m
  induction m with
  | zero =>
    intro g b hg h1 hb he hk
    refine ⟨b, ?_, hb, he, fun k a c => hk k a (by omega)⟩
    rw [f103_l0_eq]
    unfold f103_b0
    rw [ile_f (by omega), cond_false]
  | succ m ih =>
    intro g b hg h1 hb he hk
    have k1 : iadd .i64 g 1 = g + 1 := iadd64 (by unfold In64; omega)
    rw [f103_l0_eq]
    unfold f103_b0
    rw [ile_t (by omega), cond_true, f205_is (by omega) (by omega) hs hl, bind_val]
    dsimp only
    by_cases h : errS g l ≤ most
    · rw [ile_t h, cond_true, joinK_val]
      unfold f103_c24
      rw [joinK_val, k1]
      exact ih (g + 1) g (by omega) (by omega) (by omega) h (fun k a c => by omega)
    · rw [ile_f h, cond_false, joinK_val]
      unfold f103_c24
      rw [joinK_val, k1]
      refine ih (g + 1) b (by omega) (by omega) hb he (fun k a c => ?_)
      by_cases e : k = g
      · rw [e]; omega
      · exact hk k a (by omega)
theorem IsGrid.same {l : List Note} {most b b' : Int} (h : IsGrid l most b) (h' : IsGrid l most b') : b = b' := by
  obtain ⟨h1, h2, h3⟩ := h
  obtain ⟨h4, h5, h6⟩ := h'
  by_cases h7 : b < b'
  · have := h3 b' h7 h4.2; omega
  · by_cases h8 : b' < b
    · have := h6 b h8 h1.2; omega
    · omega
theorem best_any (l : List Note) (hl : l.length ≤ 1000) (most : Int) : (∃ b, f102 l most = some ((b, true, ()), ()) ∧ f103 l most = some ((b, true, ()), ()) ∧ IsGrid l most b ∧ goodS l = true) ∨ (f102 l most = some ((0, false, ()), ()) ∧ f103 l most = some ((0, false, ()), ())) := by
  have n1 : f102_r1 l most true = some ((0, false, ()), ()) := rfl
  have n2 : f103_r1 l most true = some ((0, false, ()), ()) := rfl
  have hin : f119 most 0 1000 = some ((ile 0 most && ile most 1000, ()), ()) := by
    unfold f119
    simp only [beq_t, joinK_val, f119_r1]
    cases ile 0 most <;> rfl
  unfold f102 f103
  rw [f130_is l (by omega), f133_is l (by omega), bind_val, bind_val, hin]
  simp only [beq_f, Bool.not_not, joinK_val, bind_val]
  cases hs : goodS l with
  | false => exact .inr ⟨n1, n2⟩
  | true =>
    by_cases h0 : most < 0
    · rw [ilt_t h0, ile_f (by omega)]; exact .inr ⟨n1, n2⟩
    · rw [ilt_f h0, ile_t (by omega)]
      by_cases h1 : 1000 < most
      · rw [ilt_t h1, ile_f (by omega)]; exact .inr ⟨n1, n2⟩
      · rw [ilt_f h1, ile_t (by omega)]
        obtain ⟨b, e1, b1⟩ := f102_go (goodS_starts hs) hl (most := most) (by omega) 23 24 (by omega) (by omega) (fun k a c => by omega)
        obtain ⟨b', e2, b2⟩ := f103_go (goodS_starts hs) hl (most := most) 24 1 1 (by omega) (by omega) (by omega) (by rw [errS_one]; omega) (fun k a c => by omega)
        rw [b2.same b1] at e2
        exact .inl ⟨b, e1, e2, b1, rfl⟩
/-! what snapping again gives -/
theorem sortN_sb (l : List Note) : Sb l (sortN l) ∧ SL (sortN l) := by
  have h := Im.ins l (a := 0) (e := l.length) (Nat.zero_le _) (Nat.le_refl _)
  have hs := insF_sort l
  rw [show l.length - (0 + 1) = l.length - 1 by omega, hs] at h
  refine ⟨h.sb, SL.of (P := []) (S := []) ?_⟩
  have hl := h.sb.len
  have := h.srt
  simpa [← hl] using this
theorem sortN_of {l : List Note} (h : SL l) : sortN l = l := Sb.uniq (sortN_sb l).2 h (sortN_sb l).1.symm
theorem snap_again {l : List Note} {g : Int} (hg : 1 ≤ g) : (sortN (l.map (snapN g))).map (snapN g) = sortN (l.map (snapN g)) := by
  have hm : ∀ x ∈ sortN (l.map (snapN g)), snapN g x = x := fun x hx => by
    have hx := ((sortN_sb (l.map (snapN g))).1.mem (x := x)).2 hx
    obtain ⟨y, _, rfl⟩ := List.mem_map.1 hx
    show ((snapN g y).1, snapS (snapN g y).2.1 g, (snapN g y).2.2) = snapN g y
    have : snapS (snapN g y).2.1 g = (snapN g y).2.1 := snap_self hg snap_mod
    rw [this]
  calc _ = (sortN (l.map (snapN g))).map id := List.map_congr_left hm
    _ = _ := List.map_id _
theorem err_zero {g : Int} (hg : 1 ≤ g) : ∀ q : List Note, (∀ x ∈ q, x.2.1 % g = 0) → errS g q = 0
  | [], _ => rfl
  | x :: q, h => by
    have h1 := snap_self hg (h x List.mem_cons_self)
    simp only [errS, offN, h1, err_zero hg q (fun y hy => h y (List.mem_cons_of_mem _ hy))]
    omega
theorem snap_mods {l : List Note} {g : Int} : ∀ x ∈ sortN (l.map (snapN g)), x.2.1 % g = 0 := fun x hx => by
  have hx := ((sortN_sb (l.map (snapN g))).1.mem (x := x)).2 hx
  obtain ⟨y, _, rfl⟩ := List.mem_map.1 hx
  exact snap_mod
theorem f78_at {a : List Note} (hl : a.length ≤ 1000000) : ∀ (q k : Nat), a.length - k = q → k ≤ a.length → f78_l0 (a, a, ((a.length : Nat) : Int), (k : Int), ()) = some ((true, ()), ()) := by
  intro q
  induction q with
  | zero =>
    intro k hq hk
    rw [f78_l0_eq]
    unfold f78_b0
    rw [ilt_f (by omega), cond_false]
  | succ q ih =>
    intro k hq hk
    have ha : k < a.length := by omega
    have hih := ih (k + 1) (by omega) (by omega)
    rw [show ((k + 1 : Nat) : Int) = (k : Int) + 1 by omega] at hih
    rw [f78_l0_eq]
    unfold f78_b0
    rw [ilt_t (by omega), cond_true, inB_t (by omega) (by omega), cond_true, cond_true]
    simp only [ieq_t, Bool.and_self, Bool.not_true, cond_false, joinK_val]
    rw [iadd64 (by unfold In64; omega)]
    exact hih
theorem f78_self (a : List Note) (hl : a.length ≤ 1000000) : f78 a a = some ((true, ()), ()) := by
  unfold f78
  rw [ieq_t rfl, Bool.not_true, cond_false, joinK_val]
  exact f78_at hl _ 0 rfl (Nat.zero_le _)
/-! the rest of the law -/
theorem accs_any (m : Mt) (l : List Note) (hl : l.length ≤ 31) (k : Int) : ∃ r, f105 m l k = some (r, ()) ∧ f106 m l k = some (r, ()) := by
  have n1 : ∀ x, f105_r1 l k x true = some ((0, false, ()), ()) := fun _ => rfl
  have n2 : ∀ x, f106_r1 l k x true = some ((0, false, ()), ()) := fun _ => rfl
  by_cases hk : (goodM m && goodS l) = true ∧ 0 ≤ k ∧ k < stM m
  · obtain ⟨h, h0, h1⟩ := hk
    rw [Bool.and_eq_true] at h
    obtain ⟨e1, e2⟩ := f105_106 h.1 h.2 hl h0 h1
    exact ⟨_, e1, e2⟩
  · refine ⟨(0, false, ()), ?_, ?_⟩
    · unfold f105
      rw [f209_is, bind_val, f130_is l (by omega)]
      simp only [beq_f, Bool.not_not, joinK_val, bind_val]
      cases hm : goodM m with
      | false => exact n1 (m.1, m.2, ())
      | true =>
        cases hs : goodS l with
        | false => exact n1 (m.1, m.2, ())
        | true =>
          rw [hm, hs] at hk
          obtain ⟨s1, s2, s3⟩ := stM_b (goodM_of hm)
          by_cases h0 : k < 0
          · rw [ilt_t h0]; exact n1 (m.1, m.2, ())
          · rw [ilt_f h0]
            have e : f210 m = some ((stM m, ()), ()) := by unfold f210; rw [s3]
            rw [e, bind_val]
            dsimp only
            rw [ile_t (show stM m ≤ k by by_cases hh : stM m ≤ k; exact hh; exact absurd ⟨rfl, by omega, by omega⟩ hk)]
            exact n1 (m.1, m.2, ())
    · unfold f106
      rw [f207_is, bind_val, f133_is l (by omega)]
      simp only [beq_f, Bool.not_not, joinK_val, bind_val]
      cases hm : goodM m with
      | false => exact n2 (m.1, m.2, ())
      | true =>
        cases hs : goodS l with
        | false => exact n2 (m.1, m.2, ())
        | true =>
          rw [hm, hs] at hk
          obtain ⟨s1, s2, s3⟩ := stM_b (goodM_of hm)
          have e : f208 m = some ((stM m, ()), ()) := by unfold f208; rw [s3]
          have ein : f119 k 0 (isub .i64 (stM m) 1) = some ((false, ()), ()) := by
            unfold f119
            rw [isub64 (by unfold In64; omega)]
            simp only [beq_t, joinK_val, f119_r1]
            by_cases h0 : 0 ≤ k
            · rw [ile_t h0, ile_f (show ¬ k ≤ stM m - 1 by intro hh; exact hk ⟨rfl, h0, by omega⟩)]; rfl
            · rw [ile_f h0]; rfl
          rw [e, bind_val]
          dsimp only
          rw [ein, bind_val]
          exact n2 (m.1, m.2, ())
theorem counts_any (m : Mt) (l : List Note) (hl : l.length ≤ 31) : ∃ o ok, List.length o ≤ 2001 ∧ f108 m l = some ((o, ok, ()), ()) ∧ f109 m l = some ((o, ok, ()), ()) := by
  cases hm : goodM m with
  | true =>
    cases hs : goodS l with
    | true =>
      obtain ⟨o, o1, _, _, o4, o5⟩ := f108_109 hm hs hl
      exact ⟨o, true, o1, o4, o5⟩
    | false =>
      refine ⟨[], false, by simp, ?_, ?_⟩
      · unfold f108; rw [f209_is, bind_val, f130_is l (by omega), bind_val, hm, hs]; rfl
      · unfold f109; rw [f207_is, bind_val, f133_is l (by omega), bind_val, hm, hs]; rfl
  | false =>
    refine ⟨[], false, by simp, ?_, ?_⟩
    · unfold f108; rw [f209_is, bind_val, hm]; rfl
    · unfold f109; rw [f207_is, bind_val, hm]; rfl
theorem f104_14 {code : List Int} (hc : CodeOk code) {c : Cur} {K : Nat} (hK : K ≤ 1000000) (h : CurOk code K c) (t : Int × Int × Unit) (m : Int × Int × Unit) (n : Int) : ∃ (m' : Mt) (l : List Note) (k : Int), f104_c14 t (c.1, c.2.1, c.2.2.1, ()) m n = some ((m', l, k, ()), ()) ∧ l.length ≤ 31 := by
  obtain ⟨l, c1, e1, hl, k1⟩ := f177_is hc (by omega) h
  obtain ⟨x, c2, e2, _, _, _, k2⟩ := f167_is hc (by omega) k1 n
  obtain ⟨y, c3, e3, _, k3⟩ := f139_is hc (by omega) k2 [n, -1] (by simp)
  obtain ⟨z, c4, e4, _, k4⟩ := f139_is hc (by omega) k3 [0, x, isub .i64 n 1, y] (by simp)
  have e1' : f177 (c.1, c.2.1, c.2.2.1, ()) = some ((l, ()), (c1, ())) := e1
  have e2' : f167 (c1.1, c1.2.1, c1.2.2.1, ()) n = some ((x, ()), (c2, ())) := e2
  have e3' : f139 (c2.1, c2.2.1, c2.2.2.1, ()) [n, -1] = some ((y, ()), (c3, ())) := e3
  have e4' : f139 (c3.1, c3.2.1, c3.2.2.1, ()) [0, x, isub .i64 n 1, y] = some ((z, ()), (c4, ())) := e4
  refine ⟨(m.1, m.2.1), l, z, ?_, hl⟩
  unfold f104_c14
  simp only [e1', e2', e3', e4', bind_val, agree_self]
  rfl
theorem f104_is {code : List Int} (hc : CodeOk code) : ∃ (m : Mt) (l : List Note) (k : Int), f104 code = some ((m, l, k, ()), ()) ∧ l.length ≤ 31 := by
  obtain ⟨m, c1, e1, k1⟩ := f206_is hc (by omega) (cur_new code)
  unfold f104
  rw [e1, bind_val]
  dsimp only
  rw [f207_is, bind_val]
  dsimp only
  cases hg : goodM m with
  | true =>
    rw [cond_true]
    obtain ⟨s1, s2, s3⟩ := stM_b (goodM_of hg)
    have e : f208 m = some ((stM m, ()), ()) := by unfold f208; rw [s3]
    rw [e, bind_val, joinK_val]
    exact f104_14 hc (by omega) k1 _ _ _
  | false =>
    rw [cond_false, joinK_val]
    exact f104_14 hc (by omega) k1 _ _ _
theorem f10_203 {more : List Int} (hc : CodeOk more) : f10_c203 more = some ((true, ()), ()) := by
  obtain ⟨m, l, k, e1, hl⟩ := f104_is hc
  obtain ⟨m2, l2, e2, hl2⟩ := f213_is hc
  have e3 : f107 more = some ((m2, l2, ()), ()) := by unfold f107; rw [e2, bind_val]
  obtain ⟨r, a1, a2⟩ := accs_any m l hl k
  obtain ⟨o, ok, h, b1, b2⟩ := counts_any m2 l2 hl2
  have z1 : ∀ t : Bool, beq_ t t = true := fun t => by cases t <;> rfl
  unfold f10_c203
  rw [e1, bind_val]
  dsimp only
  rw [a1, bind_val, a2, bind_val, e3, bind_val]
  dsimp only
  rw [b1, bind_val, b2, bind_val]
  simp only [z1, ieq_t, beq_t, cond_true, f77_is (show o.length ≤ 1073741824 by omega), bind_val, joinK_val, f10_r51]
theorem f10_4 {more : List Int} (hc : CodeOk more) {u : List Note} (hu : u.length ≤ 31) (hs : goodS u = true) {most b : Int} (hb : IsGrid u most b) : ∀ (m : Nat) (k : Int), 25 - k = (m : Int) → b ≤ k → f10_l4 (more, u, most, b, k, ()) = some ((true, ()), ()) := by
  obtain ⟨b1, b2, b3⟩ := hb
  intro m
  induction m with
  | zero =>
    intro k hm hk
    rw [f10_l4_eq]
    unfold f10_b4
    rw [ile_f (by omega), cond_false, joinK_val]
    exact f10_203 hc
  | succ m ih =>
    intro k hm hk
    have ha : askSn u k = true := by rw [askSn, hs, gridB, ile_t (by omega), ile_t (by omega)]; rfl
    have er : erR u k = (errS k u, true, ()) := by rw [erR, ha]; rfl
    have eb : beq_ (ile (errS k u) most) (ieq k b) = true := by
      by_cases h : k = b
      · subst h; rw [ile_t b2, ieq_t rfl]; rfl
      · have := b3 k (by omega) (by omega)
        rw [ile_f (by omega), ieq_f h]; rfl
    rw [f10_l4_eq]
    unfold f10_b4
    rw [ile_t (by omega), cond_true, f99_is (by omega), bind_val, er]
    simp only [Bool.not_true, beq_f, Bool.not_false, cond_true, eb, joinK_val, f10_r43, cond_false, iadd64 (show In64 (k + 1) by unfold In64; omega)]
    exact ih (k + 1) (by omega) (by omega)
theorem f101_is {code : List Int} (hc : CodeOk code) : ∃ (l : List Note) (g : Int), f101 code = some ((l, g, ()), ()) ∧ l.length ≤ 31 := by
  obtain ⟨l, c1, e1, hl, k1⟩ := f177_is hc (by omega) (cur_new code)
  obtain ⟨x, c2, e2, _, k2⟩ := f139_is hc (by omega) k1 [1001, -1] (by simp)
  obtain ⟨y, c3, e3, _, k3⟩ := f139_is hc (by omega) k2 [0, 1, 4, 20, 1000, x] (by simp)
  have e2' : f139 (c1.1, c1.2.1, c1.2.2.1, ()) [1001, -1] = some ((x, ()), (c2, ())) := e2
  have e3' : f139 (c2.1, c2.2.1, c2.2.2.1, ()) [0, 1, 4, 20, 1000, x] = some ((y, ()), (c3, ())) := e3
  unfold f101
  rw [e1, bind_val]
  dsimp only
  rw [e2', bind_val]
  dsimp only
  rw [e3', bind_val]
  exact ⟨l, y, rfl, hl⟩
theorem f96_is {code : List Int} (hc : CodeOk code) : ∃ (l : List Note) (g : Int), f96 code = some ((l, g, ()), ()) ∧ l.length ≤ 31 := by
  obtain ⟨l, c1, e1, hl, k1⟩ := f177_is hc (by omega) (cur_new code)
  obtain ⟨x, c2, e2, _, k2⟩ := f139_is hc (by omega) k1 [0, 25] (by simp)
  obtain ⟨y, c3, e3, _, k3⟩ := f139_is hc (by omega) k2 [1, 2, 3, 4, 8, 24, x] (by simp)
  have e2' : f139 (c1.1, c1.2.1, c1.2.2.1, ()) [0, 25] = some ((x, ()), (c2, ())) := e2
  have e3' : f139 (c2.1, c2.2.1, c2.2.2.1, ()) [1, 2, 3, 4, 8, 24, x] = some ((y, ()), (c3, ())) := e3
  unfold f96
  rw [e1, bind_val]
  dsimp only
  rw [e2', bind_val]
  dsimp only
  rw [e3', bind_val]
  exact ⟨l, y, rfl, hl⟩
theorem f10_130 {more : List Int} (hc : CodeOk more) : f10_c130 more = some ((true, ()), ()) := by
  obtain ⟨u, most, e1, hu⟩ := f101_is hc
  unfold f10_c130
  rw [e1, bind_val]
  dsimp only
  rcases best_any u (by omega) most with ⟨b, b1, b2, b3, b4⟩ | ⟨b1, b2⟩
  · rw [b1, bind_val, b2, bind_val]
    simp only [show beq_ true true = true from rfl, Bool.not_true, beq_f, Bool.not_false, cond_true, ieq_t, joinK_val, f10_r36, cond_false]
    have hb := b3.1
    exact f10_4 hc hu b4 b3 (25 - b).toNat b (by omega) (Int.le_refl _)
  · rw [b1, bind_val, b2, bind_val]
    simp only [show beq_ false false = true from rfl, Bool.not_true, beq_f, Bool.not_false, cond_true, ieq_t, joinK_val, f10_r36, cond_false]
    exact f10_203 hc
theorem f10_2 {more : List Int} (hc : CodeOk more) {q : List Note} {g : Int} (hq : q.length ≤ 31) (hs : Starts q) (hg : 1 ≤ g) (hm : ∀ x ∈ q, x.2.1 % g = 0) : ∀ (m k : Nat), q.length - k = m → k ≤ q.length → f10_l2 (more, g, q, ((q.length : Nat) : Int), (k : Int), ()) = some ((true, ()), ()) := by
  intro m
  induction m with
  | zero =>
    intro k hk h1
    rw [f10_l2_eq]
    unfold f10_b2
    rw [ilt_f (by omega), cond_false, joinK_val]
    exact f10_130 hc
  | succ m ih =>
    intro k hk h1
    have hkl : k < q.length := by omega
    have e : rdA (0, 0, 0) q (k : Int) = q[k] := rdA_nat hkl
    have h := hs _ (List.getElem_mem hkl)
    have hih := ih (k + 1) (by omega) (by omega)
    rw [show ((k + 1 : Nat) : Int) = (k : Int) + 1 by omega] at hih
    rw [f10_l2_eq]
    unfold f10_b2
    rw [ilt_t (by omega), cond_true, inB_t (by omega) (by omega), cond_true, ieq_f (by omega), Bool.not_false, cond_true, e, irem_e h.1, hm _ (List.getElem_mem hkl), ieq_t rfl, Bool.not_true, cond_false, joinK_val, iadd64 (by unfold In64; omega)]
    exact hih
theorem f10_105 {more : List Int} (hc : CodeOk more) {l : List Note} {g : Int} (hl : l.length ≤ 31) : f10_c105 more l g (snR l g).1 (snR l g).2.1 (snR l g).1 = some ((true, ()), ()) := by
  unfold f10_c105 snR
  cases ha : askSn l g with
  | false => rw [cond_false, cond_false, joinK_val]; exact f10_130 hc
  | true =>
    rw [cond_true]
    simp only [askSn, Bool.and_eq_true] at ha
    have hg := gridB_of ha.2
    have hql : (sortN (l.map (snapN g))).length = l.length := by rw [sortN_len, List.length_map]
    unfold resS
    cases hq : goodS (sortN (l.map (snapN g))) with
    | false => rw [cond_false, cond_false, joinK_val]; exact f10_130 hc
    | true =>
      rw [cond_true, cond_true]
      have e1 := snap_again (l := l) hg.1
      have e2 : sortN (sortN (l.map (snapN g))) = sortN (l.map (snapN g)) := sortN_of (sortN_sb _).2
      have e3 := err_zero hg.1 _ (snap_mods (l := l) (g := g))
      have hm := snap_mods (l := l) (g := g)
      generalize sortN (l.map (snapN g)) = q at *
      have hask : askSn q g = true := by rw [askSn, hq, ha.2]; rfl
      have r1 : snR q g = (q, true, ()) := by rw [snR, hask, cond_true, e1, e2, resS, hq]; rfl
      have r2 : erR q g = (0, true, ()) := by rw [erR, hask, cond_true, e3]
      dsimp only
      rw [f97_is (by omega), bind_val, f99_is (by omega), bind_val, r1, r2]
      simp only [Bool.not_true, beq_f, Bool.not_false, cond_true, f78_self q (by omega), bind_val, ieq_t, ieq_t (show ((q.length : Nat) : Int) = ((l.length : Nat) : Int) by omega), joinK_val, f10_r25, cond_false]
      exact f10_2 hc (by omega) (goodS_starts hq) hg.1 hm _ 0 rfl (Nat.zero_le _)
theorem f10_0 {more : List Int} (hc : CodeOk more) {l : List Note} {g : Int} (hl : l.length ≤ 31) (hs : Starts l) (hg : 1 ≤ g) (hg2 : g ≤ 24) : ∀ (m k : Nat) (sum : Int), l.length - k = m → k ≤ l.length → 0 ≤ sum → sum ≤ 24 * (k : Int) →
    f10_l0 (more, l, g, (snR l g).1, (snR l g).2.1, (snR l g).1, sum + errS g (l.drop k), sum, ((l.length : Nat) : Int), (k : Int), ()) = some ((true, ()), ()) := by
  intro m
  induction m with
  | zero =>
    intro k sum hm hk h0 h1
    rw [f10_l0_eq]
    unfold f10_b0
    rw [ilt_f (by omega), cond_false, List.drop_eq_nil_of_le (by omega), errS, Int.add_zero, ieq_t rfl, Bool.not_true, cond_false, joinK_val]
    exact f10_105 hc hl
  | succ m ih =>
    intro k sum hm hk h0 h1
    have hkl : k < l.length := by omega
    have e : rdA (0, 0, 0) l (k : Int) = l[k] := rdA_nat hkl
    have h := hs _ (List.getElem_mem hkl)
    have ho := offN_b (x := l[k]) hg hg2 h
    have r0 := Int.emod_nonneg l[k].2.1 (show g ≠ 0 by omega)
    have r1 := Int.emod_lt_of_pos l[k].2.1 (show 0 < g by omega)
    have hih := ih (k + 1) (sum + offN g l[k]) (by omega) (by omega) (by omega) (by omega)
    rw [show ((k + 1 : Nat) : Int) = (k : Int) + 1 by omega] at hih
    have fin : ∀ r : Int, r = offN g l[k] → f10_c119 f10_l0 more l g (snR l g).1 (snR l g).2.1 (snR l g).1 (sum + errS g (l.drop k)) sum r ((l.length : Nat) : Int) (k : Int) = some ((true, ()), ()) := by
      rintro r rfl
      unfold f10_c119
      rw [joinK_val, iadd64 (by unfold In64; omega), iadd64 (by unfold In64; omega), List.drop_eq_getElem_cons hkl, errS, ← Int.add_assoc]
      exact hih
    rw [f10_l0_eq]
    unfold f10_b0
    rw [ilt_t (by omega), cond_true, inB_t (by omega) (by omega), cond_true, ieq_f (by omega), Bool.not_false, cond_true, e, irem_e h.1, imul64 (by unfold In64; omega)]
    rcases snap_cases (s := l[k].2.1) hg with ⟨c1, c2⟩ | ⟨c1, c2⟩
    · rw [ile_f (by omega), cond_false, joinK_val]
      exact fin _ (by dsimp only; unfold offN; rw [c2]; omega)
    · rw [ile_t (by omega), cond_true, joinK_val]
      exact fin _ (by dsimp only; rw [isub64 (by unfold In64; omega)]; unfold offN; rw [c2]; omega)
theorem Pure.FnSnaps (x0 : List Int) (x1 : List Int) (ok0 : List.length x0 ≤ 9223372036854775807 ∧ AllL In8 x0) (ok1 : List.length x1 ≤ 9223372036854775807 ∧ AllL In8 x1) : f10 x0 x1 = some ((true, ()), ()) := by
  have hbg : ∃ b, f67 x0 x1 = some ((b, ()), ()) := by
    unfold f67
    simp only [joinK_val, f67_r1]
    cases (beq_ (ilt 1048576 ((x0.length : Nat) : Int)) false) <;> exact ⟨_, rfl⟩
  obtain ⟨b, eb⟩ := hbg
  unfold f10
  rw [eb, bind_val]
  cases b with
  | true => rfl
  | false =>
    have c0 := codeOk ok0.2
    have c1 := codeOk ok1.2
    obtain ⟨l, g, el, hl⟩ := f96_is c0
    have z1 : ∀ t : Bool, beq_ t t = true := fun t => by cases t <;> rfl
    have hsl : (snR l g).1.length ≤ 31 := by
      unfold snR resS
      cases askSn l g
      · simp
      · rw [cond_true]
        cases goodS (sortN (l.map (snapN g)))
        · simp
        · rw [cond_true]; dsimp only; rw [sortN_len, List.length_map]; exact hl
    have h105 := f10_105 c1 (g := g) hl
    have ho : (snR l g).2.1 = true → (erR l g).2.1 = true := by
      unfold snR erR
      cases askSn l g
      · exact id
      · exact fun _ => rfl
    have r8 : f10_r8 x1 l g (snR l g).1 (snR l g).2.1 (snR l g).1 (erR l g).2.1 (erR l g).1 false = some ((true, ()), ()) := by
      unfold f10_r8 erR
      cases ha : askSn l g with
      | false => rw [cond_false, cond_false, cond_false, joinK_val]; exact h105
      | true =>
        simp only [askSn, Bool.and_eq_true] at ha
        have hg := gridB_of ha.2
        have := f10_0 c1 hl (goodS_starts ha.1) hg.1 hg.2 _ 0 0 rfl (Nat.zero_le _) (by omega) (by omega)
        rw [List.drop_zero, Int.zero_add] at this
        exact this
    dsimp only
    rw [cond_false, el, bind_val]
    dsimp only
    rw [f97_is (by omega), bind_val, f98_is (by omega), bind_val, f99_is (by omega), bind_val, f100_is (by omega), bind_val]
    simp only [z1, Bool.not_true, beq_f, beq_t, Bool.not_false, cond_true, f78_self (snR l g).1 (by omega), bind_val, ieq_t, joinK_val]
    cases hk : (snR l g).2.1 with
    | true =>
      rw [hk] at r8
      rw [cond_true, ho hk]
      rw [ho hk] at r8
      exact r8
    | false =>
      rw [hk] at r8
      rw [cond_false]
      exact r8
end Go.Proofs.Ytbkihiggkaabmaa.R
