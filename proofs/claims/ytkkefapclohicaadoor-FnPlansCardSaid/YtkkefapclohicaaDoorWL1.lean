/- Lateness: the program's and the reference's say the same; the order by due days has the least. -/
import Derived.Test.YtkkefapclohicaaDoorBP1
set_option linter.unusedVariables false
set_option linter.unusedSimpArgs false
namespace Go.Proofs.YtkkefapclohicaaDoor.R
/-! the greatest lateness -/
def wlG : List Job → List Int → Int → Int
  | x :: l, d :: F, w => wlG l F (imax w (d - x.2.1))
  | _, _, w => w
theorem imax_ge (x y : Int) : x ≤ imax x y ∧ y ≤ imax x y ∧ (imax x y = x ∨ imax x y = y) := by
  unfold imax
  by_cases h : y > x
  · rw [if_pos h]; exact ⟨by omega, by omega, .inr rfl⟩
  · rw [if_neg h]; exact ⟨by omega, by omega, .inl rfl⟩
theorem wlG_ge : ∀ (l : List Job) (F : List Int) (w : Int), w ≤ wlG l F w
  | [], F, w => by cases F <;> exact Int.le_refl _
  | x :: l, [], w => Int.le_refl _
  | x :: l, d :: F, w => by
    have h1 := (imax_ge w (d - x.2.1)).1
    have h2 := wlG_ge l F (imax w (d - x.2.1))
    simp only [wlG]
    omega
theorem wlG_at : ∀ (l : List Job) (F : List Int) (w : Int) (i : Nat) (h1 : i < l.length) (h2 : i < F.length), F[i] - l[i].2.1 ≤ wlG l F w
  | [], F, w, i, h1, _ => by simp at h1
  | x :: l, [], w, i, _, h2 => by simp at h2
  | x :: l, d :: F, w, 0, _, _ => by
    have h1 := (imax_ge w (d - x.2.1)).2.1
    have h2 := wlG_ge l F (imax w (d - x.2.1))
    simp only [wlG, List.getElem_cons_zero]
    omega
  | x :: l, d :: F, w, i + 1, h1, h2 => by
    simp only [wlG, List.getElem_cons_succ]
    exact wlG_at l F _ i _ _
theorem wlG_is : ∀ (l : List Job) (F : List Int) (w : Int), wlG l F w = w ∨ ∃ (i : Nat) (h1 : i < l.length) (h2 : i < F.length), wlG l F w = F[i] - l[i].2.1
  | [], F, w => by cases F <;> exact .inl rfl
  | x :: l, [], w => .inl rfl
  | x :: l, d :: F, w => by
    simp only [wlG]
    rcases wlG_is l F (imax w (d - x.2.1)) with h | ⟨i, h1, h2, h⟩
    · rcases (imax_ge w (d - x.2.1)).2.2 with e | e
      · exact .inl (h.trans e)
      · exact .inr ⟨0, by simp, by simp, h.trans e⟩
    · exact .inr ⟨i + 1, by simpa using h1, by simpa using h2, h⟩
theorem wlG_drop {l : List Job} {F : List Int} {k : Nat} (h1 : k < l.length) (h2 : k < F.length) (w : Int) : wlG (l.drop k) (F.drop k) w = wlG (l.drop (k + 1)) (F.drop (k + 1)) (imax w (F[k] - l[k].2.1)) := by
  rw [List.drop_eq_getElem_cons h1, List.drop_eq_getElem_cons h2, wlG]
section
variable {l : List Job} {o : List Int}
theorem most_is (w d : Int) : f71 w d = some ((imax w d, ()), ()) := by
  unfold f71 imax
  by_cases h : d < w
  · rw [ilt_t h, cond_true, if_neg (by omega)]
  · rw [ilt_f h, cond_false]
    by_cases h' : d > w
    · rw [if_pos h']
    · rw [if_neg h', show w = d by omega]
theorem worst_go (hp : Plan l) {F : List Int} (hF : F.length = l.length) (hA : AllIn 360 F) : ∀ (m k : Nat) (w : Int), l.length - k = m → k ≤ l.length →
    f49_l0 (l, w, F, ((F.length : Nat) : Int), (k : Int), ()) = some ((wlG (l.drop k) (F.drop k) w, ()), ()) ∧ f18_l0 (F, w, l, ((l.length : Nat) : Int), (k : Int), ()) = some ((wlG (l.drop k) (F.drop k) w, true, ()), ()) := by
  have hlen := hp.len
  intro m
  induction m with
  | zero =>
    intro k w hm hk
    rw [f49_l0_eq, f18_l0_eq]
    unfold f49_b0 f18_b0
    rw [ilt_f (by omega), cond_false, ilt_f (by omega), cond_false, List.drop_eq_nil_of_le (by omega), List.drop_eq_nil_of_le (by omega)]
    exact ⟨rfl, rfl⟩
  | succ m ih =>
    intro k w hm hk
    have hkl : k < l.length := by omega
    have hkF : k < F.length := by omega
    have hok := hp.ok k hkl
    have hd := hA F[k] (List.getElem_mem hkF)
    have e : rdA (0, 0, 0) l (k : Int) = l[k] := rdA_nat hkl
    have ei : iadd .i64 (k : Int) 1 = ((k + 1 : Nat) : Int) := by rw [iadd64 (by unfold In64; omega)]; rfl
    rw [f49_l0_eq, f18_l0_eq]
    unfold f49_b0 f18_b0
    rw [ilt_t (by omega), cond_true, inB_t (by omega) (by omega), cond_true, inB_t (by omega) (by omega), cond_true, ilt_t (by omega), cond_true, cond_true, cond_true, rdA_nat hkF, e, isub64 (by unfold In64; omega),
      most_is, bind_val, joinK_val, joinK_val, ei, wlG_drop hkl hkF]
    exact ih (k + 1) _ (by omega) (by omega)
def worstV (l : List Job) (o : List Int) : Int := wlG l (finD l o) (-1000)
def wlR (l : List Job) (o : List Int) : Int × Bool × Unit := cond (okO l o && !decide (l.length = 0)) (worstV l o, true, ()) (0, false, ())
theorem pnWorst_is (hp : Plan l) (ho : Ord l o) : f49 l o = some ((worstV l o, ()), ()) := by
  have hlen := hp.len
  have := (worst_go hp (finD_len l o) (finD_in hp ho) _ 0 (-1000) rfl (Nat.zero_le _)).1
  unfold f49
  rw [f36_i hp ho.rng (by rw [ho.len]; omega), bind_val, joinK_val]
  exact this
theorem specWorst_is (hl : l.length ≤ 1000000) (ho : o.length ≤ 1000000) : f19 l o = some (wlR l o, ()) := by
  unfold f19 wlR
  rw [f35_is hl ho, bind_val]
  cases h : okO l o with
  | false => rfl
  | true =>
    obtain ⟨hg, hO⟩ := okO_of h
    have hp := goodP_plan hg
    rw [Bool.not_true, beq_f, Bool.not_false, cond_true, joinK_val]
    dsimp only
    unfold f19_r1
    by_cases h0 : l.length = 0
    · rw [ieq_t (by omega), cond_true, decide_eq_true h0]; rfl
    · rw [ieq_f (by omega), cond_false, decide_eq_false h0, pnWorst_is hp hO, bind_val]; rfl
theorem implWorst_is (hl : l.length ≤ 1000000) (ho : o.length ≤ 1000000) : f18 l o = some (wlR l o, ()) := by
  unfold f18 wlR
  rw [f41_is hl ho, bind_val]
  cases h : okO l o with
  | false => rfl
  | true =>
    obtain ⟨hg, hO⟩ := okO_of h
    have hp := goodP_plan hg
    have hlen := hp.len
    have hF := finD_len l o
    have hA := finD_in hp hO
    rw [Bool.not_true, beq_f, Bool.not_false, cond_true, joinK_val]
    dsimp only
    unfold f18_r1
    by_cases h0 : l.length = 0
    · rw [ieq_t (by omega), cond_true, decide_eq_true h0]; rfl
    · have h1 : 0 < l.length := by omega
      have h2 : 0 < (finD l o).length := by omega
      have hok := hp.ok 0 h1
      have hd := hA (finD l o)[0] (List.getElem_mem h2)
      have e : rdA (0, 0, 0) l 0 = l[0] := rdA_nat (i := 0) h1
      have ed : rdA 0 (finD l o) 0 = (finD l o)[0] := rdA_nat (i := 0) h2
      have hw := (worst_go hp hF hA _ 0 ((finD l o)[0] - l[0].2.1) rfl (Nat.zero_le _)).2
      have ew : wlG l (finD l o) ((finD l o)[0] - l[0].2.1) = worstV l o := by
        unfold worstV
        have a1 := wlG_drop h1 h2 ((finD l o)[0] - l[0].2.1)
        have a2 := wlG_drop h1 h2 (-1000)
        rw [List.drop_zero, List.drop_zero] at a1 a2
        rw [a1, a2]
        have m1 : imax ((finD l o)[0] - l[0].2.1) ((finD l o)[0] - l[0].2.1) = (finD l o)[0] - l[0].2.1 := by unfold imax; rw [if_neg (by omega)]
        have m2 : imax (-1000) ((finD l o)[0] - l[0].2.1) = (finD l o)[0] - l[0].2.1 := by unfold imax; rw [if_pos (by omega)]
        rw [m1, m2]
      rw [List.drop_zero, List.drop_zero, ew] at hw
      rw [ieq_f (by omega), cond_false, f42_i hp hO.rng (by rw [hO.len]; omega), bind_val]
      dsimp only
      rw [inB_t (by omega) (by omega), cond_true, inB_t (by omega) (by omega), cond_true, joinK_val, ed, e, isub64 (by unfold In64; omega), decide_eq_false h0]
      exact hw
/-! the order by due days -/
theorem pigeon : ∀ (n : Nat) (s : List Int), s.Nodup → (∀ y ∈ s, 0 ≤ y ∧ y < (n : Int)) → s.length ≤ n
  | 0, s, _, h => by
    cases s with
    | nil => exact Nat.le_refl _
    | cons a s => have := h a List.mem_cons_self; omega
  | n + 1, s, hn, h => by
    by_cases hm : (n : Int) ∈ s
    · obtain ⟨a, b, rfl⟩ := List.append_of_mem hm
      have hn2 : (a ++ b).Nodup := by
        rw [List.nodup_append] at hn ⊢
        obtain ⟨h1, h2, h3⟩ := hn
        exact ⟨h1, (List.nodup_cons.1 h2).2, fun x hx y hy => h3 x hx y (List.mem_cons_of_mem _ hy)⟩
      have hne : ∀ y ∈ a ++ b, y ≠ (n : Int) := fun y hy e => by
        subst e
        rw [List.nodup_append] at hn
        rcases List.mem_append.1 hy with h' | h'
        · exact hn.2.2 _ h' _ List.mem_cons_self rfl
        · exact (List.nodup_cons.1 hn.2.1).1 h'
      have := pigeon n (a ++ b) hn2 (fun y hy => by
        have h1 := h y (by rcases List.mem_append.1 hy with h' | h' <;> simp [h'])
        have h2 := hne y hy
        omega)
      simp at this ⊢
      omega
    · have := pigeon n s hn (fun y hy => by
        have h1 := h y hy
        have h2 : y ≠ (n : Int) := fun e => hm (e ▸ hy)
        omega)
      omega
theorem Ord.mem (ho : Ord l o) {y : Int} (h0 : 0 ≤ y) (h1 : y < (l.length : Int)) : y ∈ o := by
  by_cases h : y ∈ o
  · exact h
  · have := pigeon l.length (y :: o) (List.nodup_cons.2 ⟨h, ho.nd⟩) (fun z hz => by
      rcases List.mem_cons.1 hz with rfl | hz
      · exact ⟨h0, h1⟩
      · exact ho.rng z hz)
    have := ho.len
    simp at *
    omega
def sumD (l : List Job) : List Int → Int
  | [] => 0
  | y :: o => (jobAt l y).1 + sumD l o
theorem sumD_app (l : List Job) : ∀ a b : List Int, sumD l (a ++ b) = sumD l a + sumD l b
  | [], b => by simp [sumD]
  | y :: a, b => by simp only [List.cons_append, sumD, sumD_app l a b]; omega
theorem sumD_le (hp : Plan l) : ∀ (S T : List Int), Rng l T → S.Nodup → (∀ y ∈ S, y ∈ T) → sumD l S ≤ sumD l T := by
  have nn : ∀ T : List Int, Rng l T → 0 ≤ sumD l T := by
    intro T
    induction T with
    | nil => intro _; exact Int.le_refl _
    | cons y T ih =>
      intro h
      have := jobAt_in hp (h y List.mem_cons_self)
      have := ih (fun z hz => h z (List.mem_cons_of_mem _ hz))
      simp only [sumD]
      omega
  intro S
  induction S with
  | nil => intro T h _ _; exact nn T h
  | cons y S ih =>
    intro T h hn hs
    obtain ⟨a, b, rfl⟩ := List.append_of_mem (hs y List.mem_cons_self)
    obtain ⟨n1, n2⟩ := List.nodup_cons.1 hn
    have := ih (a ++ b) (fun z hz => h z (by rcases List.mem_append.1 hz with h' | h' <;> simp [h'])) n2 (fun z hz => by
      have h1 := hs z (List.mem_cons_of_mem _ hz)
      have h2 : z ≠ y := fun e => n1 (e ▸ hz)
      rcases List.mem_append.1 h1 with h' | h'
      · simp [h']
      · rcases List.mem_cons.1 h' with e | h'
        · exact absurd e h2
        · simp [h'])
    rw [sumD_app] at this ⊢
    simp only [sumD]
    omega
theorem fin_keep (l : List Job) {y : Int} (h0 : 0 ≤ y) : ∀ (s : List Int) (day : Int) (acc : List Int), (∀ z ∈ s, 0 ≤ z) → y ∉ s → (finG l s day acc).getD y.toNat 0 = acc.getD y.toNat 0
  | [], day, acc, _, _ => rfl
  | z :: s, day, acc, hz, hy => by
    rw [finG, fin_keep l h0 s _ _ (fun z h => hz z (List.mem_cons_of_mem _ h)) (fun h => hy (List.mem_cons_of_mem _ h))]
    have h1 : z.toNat ≠ y.toNat := fun e => hy (by have := hz z List.mem_cons_self; rw [show y = z by omega]; exact List.mem_cons_self)
    simp [List.getD, List.getElem?_set, h1]
theorem fin_at (l : List Job) {y : Int} (h0 : 0 ≤ y) {suf : List Int} (hs : ∀ z ∈ suf, 0 ≤ z) (hy : y ∉ suf) : ∀ (pre : List Int) (day : Int) (acc : List Int), y.toNat < acc.length → (finG l (pre ++ y :: suf) day acc).getD y.toNat 0 = day + sumD l pre + (jobAt l y).1
  | [], day, acc, hl => by
    rw [List.nil_append, finG, fin_keep l h0 suf _ _ hs hy]
    simp only [List.getD, List.getElem?_set, if_pos, hl, Option.getD_some, sumD]
    omega
  | z :: pre, day, acc, hl => by
    rw [List.cons_append, finG, fin_at l h0 hs hy pre _ _ (by simpa using hl)]
    simp only [sumD]
    omega
theorem fin_here (ho : Ord l o) {pre suf : List Int} {y : Int} (e : o = pre ++ y :: suf) : (finD l o).getD y.toNat 0 = sumD l pre + (jobAt l y).1 := by
  have hr := ho.rng
  have hn := ho.nd
  rw [e] at hr hn
  have hy := hr y (by simp)
  have := fin_at l (y := y) hy.1 (suf := suf) (fun z hz => (hr z (by simp [hz])).1) (by
    rw [List.nodup_append] at hn
    exact (List.nodup_cons.1 hn.2.1).1) pre 0 (List.replicate l.length 0) (by simp; omega)
  unfold finD
  rw [e, this]
  omega
theorem last_in (S : List Int) : ∀ o : List Int, (∃ y ∈ S, y ∈ o) → ∃ pre j suf, o = pre ++ j :: suf ∧ j ∈ S ∧ ∀ y ∈ suf, y ∉ S
  | [], ⟨y, _, h⟩ => by cases h
  | a :: t, h => by
    by_cases ht : ∃ y ∈ S, y ∈ t
    · obtain ⟨pre, j, suf, e, h1, h2⟩ := last_in S t ht
      exact ⟨a :: pre, j, suf, by rw [e]; rfl, h1, h2⟩
    · obtain ⟨y, hy, hyo⟩ := h
      rcases List.mem_cons.1 hyo with rfl | hyo
      · exact ⟨[], y, t, rfl, hy, fun z hz hzS => ht ⟨z, hzS, hz⟩⟩
      · exact absurd ⟨y, hy, hyo⟩ ht
theorem due_mono {d : List Int} (hs : Srt l d) : ∀ (m i : Nat), i + m < d.length → dueD l (d.getD i 0) ≤ dueD l (d.getD (i + m) 0)
  | 0, i, _ => Int.le_refl _
  | m + 1, i, h => by
    have h1 := due_mono hs m i (by omega)
    have h2 := hs (i + m) (by omega)
    rw [show i + (m + 1) = i + m + 1 by omega]
    rcases h2 with h2 | ⟨h2, _⟩ <;> omega
theorem due_job {y : Int} : dueD l y = (jobAt l y).2.1 := rfl
theorem least_late (hp : Plan l) (ho : Ord l o) : worstV l (ordD l l.length) ≤ worstV l o := by
  have hd := ordD_ord l
  have hs := ordD_srt l l.length
  generalize ordD l l.length = d at hd hs
  have hF := finD_len l d
  have hG := finD_len l o
  rcases wlG_is l (finD l d) (-1000) with h | ⟨i, h1, h2, h⟩
  · have := wlG_ge l (finD l o) (-1000)
    unfold worstV
    omega
  · have hi : (i : Int) ∈ d := hd.mem (by omega) (by omega)
    obtain ⟨pre, suf, e⟩ := List.append_of_mem hi
    have f1 := fin_here hd e
    have f1 : (finD l d)[i] = sumD l pre + (jobAt l (i : Int)).1 := by rw [← f1]; simp [List.getD, h2]
    have hnd := hd.nd
    rw [e] at hnd
    have hSn : (pre ++ [(i : Int)]).Nodup := by
      rw [List.nodup_append] at hnd ⊢
      exact ⟨hnd.1, by simp, fun x hx y hy => hnd.2.2 x hx y (by rw [List.mem_singleton.1 hy]; exact List.mem_cons_self)⟩
    have hSo : ∀ y ∈ pre ++ [(i : Int)], y ∈ o := fun y hy => by
      have : y ∈ d := by rw [e]; rcases List.mem_append.1 hy with h' | h' <;> simp_all
      have := hd.rng y this
      exact ho.mem this.1 this.2
    obtain ⟨p2, j, s2, e2, hj, hlast⟩ := last_in (pre ++ [(i : Int)]) o ⟨(i : Int), by simp, hSo _ (by simp)⟩
    have hjr := ho.rng j (hSo j hj)
    have f2 := fin_here ho e2
    obtain ⟨k, rfl⟩ : ∃ k : Nat, j = (k : Int) := ⟨j.toNat, by omega⟩
    have hkl : k < l.length := by omega
    have hkG : k < (finD l o).length := by omega
    have f2 : (finD l o)[k] = sumD l p2 + (jobAt l (k : Int)).1 := by rw [← f2]; simp [List.getD, hkG]
    have hr2 : Rng l (p2 ++ [(k : Int)]) := fun y hy => ho.rng y (by rw [e2]; rcases List.mem_append.1 hy with h' | h' <;> simp_all)
    have hsum := sumD_le hp (pre ++ [(i : Int)]) (p2 ++ [(k : Int)]) hr2 hSn (fun y hy => by
      have h1 := hSo y hy
      rw [e2] at h1
      rcases List.mem_append.1 h1 with h' | h'
      · simp [h']
      · rcases List.mem_cons.1 h' with e' | h'
        · simp [e']
        · exact absurd hy (hlast y h'))
    rw [sumD_app, sumD_app] at hsum
    simp only [sumD] at hsum
    have hdue : dueD l (k : Int) ≤ dueD l (i : Int) := by
      rcases List.mem_append.1 hj with h' | h'
      · obtain ⟨t, ht, het⟩ := List.getElem_of_mem h'
        have hl : d.length = pre.length + suf.length + 1 := by rw [e]; simp; omega
        have g1 : d.getD t 0 = (k : Int) := by rw [e]; simp [List.getD, List.getElem?_append_left ht, het, ht]
        have g2 : d.getD (t + (pre.length - t)) 0 = (i : Int) := by rw [show t + (pre.length - t) = pre.length by omega, e]; simp [List.getD]
        have := due_mono hs (pre.length - t) t (by omega)
        rw [g1, g2] at this
        exact this
      · rw [List.mem_singleton.1 h']; exact Int.le_refl _
    have a1 := wlG_at l (finD l o) (-1000) k hkl hkG
    have j1 : (jobAt l (i : Int)).2.1 = l[i].2.1 := by unfold jobAt; rw [Int.toNat_natCast, getD_job h1]
    have j2 : (jobAt l (k : Int)).2.1 = l[k].2.1 := by unfold jobAt; rw [Int.toNat_natCast, getD_job hkl]
    rw [due_job, due_job, j1, j2] at hdue
    unfold worstV
    omega
end
end Go.Proofs.YtkkefapclohicaaDoor.R
