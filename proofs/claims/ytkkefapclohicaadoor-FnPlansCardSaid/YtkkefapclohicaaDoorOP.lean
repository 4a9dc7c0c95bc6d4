/- The best order: it has the sum that is told, and no other order has less. -/
import Derived.Test.YtkkefapclohicaaDoorORP
set_option linter.unusedVariables false
set_option linter.unusedSimpArgs false
namespace Go.Proofs.YtkkefapclohicaaDoor.R
/-- What the jobs cost, one after the other. -/
def csum (W : Bool) (l : List Job) : List Int → Int → Int
  | [], _ => 0
  | y :: o, day => costJ W (jobAt l y) (day + (jobAt l y).1) + csum W l o (day + (jobAt l y).1)
theorem tot_set (W : Bool) : ∀ (l : List Job) (acc : List Int) (j : Nat) (v : Int), j < l.length → j < acc.length → tot W l (acc.set j v) = tot W l acc - costJ W (l.getD j (0, 0, 0)) (acc.getD j 0) + costJ W (l.getD j (0, 0, 0)) v
  | [], acc, j, v, h, _ => by simp at h
  | x :: l, [], j, v, _, h => by simp at h
  | x :: l, a :: acc, 0, v, _, _ => by simp only [List.set_cons_zero, tot, List.getD_cons_zero]; omega
  | x :: l, a :: acc, j + 1, v, h, h2 => by
    have ih := tot_set W l acc j v (by simpa using h) (by simpa using h2)
    simp only [List.set_cons_succ, tot, List.getD_cons_succ, ih]
    omega
theorem cost_zero (W : Bool) {x : Job} (h : 0 ≤ x.2.1) : costJ W x 0 = 0 := by
  unfold costJ
  cases W with
  | true => simp
  | false => rw [cond_false, ilt_f (by omega)]; rfl
theorem tot_fin (W : Bool) {l : List Job} (hp : Plan l) : ∀ (o : List Int) (day : Int) (acc : List Int), Rng l o → o.Nodup → acc.length = l.length → (∀ y ∈ o, acc.getD y.toNat 0 = 0) → tot W l (finG l o day acc) = tot W l acc + csum W l o day
  | [], day, acc, _, _, _, _ => by simp [finG, csum]
  | y :: o, day, acc, hr, hn, ha, hz => by
    have hy := hr y List.mem_cons_self
    have hj := jobAt_in hp hy
    have hn' := List.nodup_cons.1 hn
    have ih := tot_fin W hp o (day + (jobAt l y).1) (acc.set y.toNat (day + (jobAt l y).1)) (fun z hz => hr z (List.mem_cons_of_mem _ hz)) hn'.2 (by simpa using ha) (fun z hzo => by
      have hzr := hr z (List.mem_cons_of_mem _ hzo)
      have hne : y.toNat ≠ z.toNat := fun e => hn'.1 (by rw [show y = z by omega]; exact hzo)
      rw [getD_set hne]
      exact hz z (List.mem_cons_of_mem _ hzo))
    rw [finG, ih, tot_set W l acc _ _ (by omega) (by omega), hz y List.mem_cons_self, csum]
    have : l.getD y.toNat (0, 0, 0) = jobAt l y := rfl
    rw [this, cost_zero W hj.2.2.1]
    omega
theorem tot_zero (W : Bool) {l : List Job} : ∀ (m : List Job) (n : Nat), (∀ x ∈ m, 0 ≤ x.2.1) → tot W m (List.replicate n 0) = 0
  | [], n, _ => by simp [tot]
  | x :: m, 0, _ => rfl
  | x :: m, n + 1, h => by
    rw [List.replicate_succ, tot, cost_zero W (h x List.mem_cons_self), tot_zero W (l := l) m n (fun y hy => h y (List.mem_cons_of_mem _ hy))]
    rfl
theorem plan_mem {l : List Job} (hp : Plan l) {x : Job} (hx : x ∈ l) : 1 ≤ x.1 ∧ x.1 ≤ 30 ∧ 0 ≤ x.2.1 ∧ x.2.1 ≤ 400 ∧ 0 ≤ x.2.2 ∧ x.2.2 ≤ 20 := by
  obtain ⟨i, hi, rfl⟩ := List.getElem_of_mem hx
  exact hp.ok i hi
theorem tot_csum (W : Bool) {l : List Job} (hp : Plan l) {o : List Int} (ho : Ord l o) : tot W l (finD l o) = csum W l o 0 := by
  rw [finD, tot_fin W hp o 0 _ ho.rng ho.nd (by simp) (fun y _ => by simp [List.getD, List.getElem?_replicate]; split <;> rfl), tot_zero W (l := l) l _ (fun x hx => (plan_mem hp hx).2.2.1)]
  omega
/-- No order of those that are left has less than the table tells. -/
theorem tab_low {W : Bool} {l : List Job} (hp : Plan l) {R F : List Int} (ht : TabI W l R F 0) : ∀ (o : List Int) (s : Nat), s < 2 ^ l.length → Rng l o → o.Nodup → (∀ y ∈ o, s.testBit y.toNat = false) → ucnt s l.length = o.length → R.getD s 0 ≤ csum W l o (dsum l s l.length)
  | [], s, hs, _, _, _, hu => by
    have h1 : ¬ s < 2 ^ l.length - 1 := fun h => by have := (ucnt_lt hs).1 h; rw [hu] at this; simp at this
    have h2 := ht.ok s (Nat.zero_le _) hs
    have e : 2 ^ l.length - 1 - s = 0 := by omega
    rw [e] at h2
    simp only [csum]
    omega
  | y :: o, s, hs, hr, hn, hb, hu => by
    have hy := hr y List.mem_cons_self
    have hn' := List.nodup_cons.1 hn
    have hyl : y.toNat < l.length := by omega
    have hby := hb y List.mem_cons_self
    have h1 := or_gt hby
    have h2 := or_lt hs hyl
    have hu2 := ucnt_or hby l.length
    rw [if_pos hyl] at hu2
    have ih := tab_low hp ht o (s ||| 2 ^ y.toNat) h2 (fun z hz => hr z (List.mem_cons_of_mem _ hz)) hn'.2 (fun z hz => by
      have hzr := hr z (List.mem_cons_of_mem _ hz)
      rw [Nat.testBit_or, hb z (List.mem_cons_of_mem _ hz), Nat.testBit_two_pow_of_ne (fun e => hn'.1 (by rw [show y = z by omega]; exact hz))]
      rfl) (by simp only [List.length_cons] at hu; omega)
    obtain ⟨w, i, hf, hw, _⟩ := ht.best s (Nat.zero_le _) (by omega)
    obtain ⟨_, _, _, g4, _⟩ := foldB_some hf
    have := g4 y.toNat hyl hby
    have hd := dsum_or (l := l) hby l.length
    rw [if_pos hyl] at hd
    unfold nextV at this
    have ej : l.getD y.toNat (0, 0, 0) = jobAt l y := rfl
    rw [ej] at this hd
    rw [hd] at this ih
    rw [csum, hw]
    omega
theorem f56_got {W : Bool} {l : List Job} (hp : Plan l) {R F : List Int} (hi : TabI W l R F 0) : ∀ (m s : Nat) (out : List Int), 2 ^ l.length - s = m → s < 2 ^ l.length → out.length + ucnt s l.length = l.length →
    ∃ p : List Int, f56_l4 (l, W, R, out, (s : Int), ()) = some ((out ++ p, R.getD 0 0, ()), ()) ∧ Rng l p ∧ p.Nodup ∧ (∀ y ∈ p, s.testBit y.toNat = false) ∧ ucnt s l.length = p.length ∧ csum W l p (dsum l s l.length) = R.getD s 0 := by
  have hlen := hp.len
  have hpow := pow_len hp
  have hRl := hi.len
  intro m
  induction m using Nat.strongRecOn with
  | ind m ih =>
    intro s out hm hs ho
    by_cases hlt : s < 2 ^ l.length - 1
    · have hc := (ucnt_lt hs).1 hlt
      obtain ⟨w, i, hf, hw, hF⟩ := hi.best s (Nat.zero_le _) (by omega)
      obtain ⟨g1, g2, g3, g4, g5⟩ := foldB_some hf
      have h1 := or_gt g2
      have h2 := or_lt hs g1
      have hu := ucnt_or g2 l.length
      rw [if_pos g1] at hu
      obtain ⟨p, e1, p1, p2, p3, p4, p5⟩ := ih (2 ^ l.length - (s ||| 2 ^ i)) (by omega) (s ||| 2 ^ i) (out ++ [(i : Int)]) rfl h2 (by simp; omega)
      have hd := dsum_or (l := l) g2 l.length
      rw [if_pos g1] at hd
      refine ⟨(i : Int) :: p, ?_, ?_, ?_, ?_, ?_, ?_⟩
      · rw [f56_l4_eq]
        unfold f56_b4
        rw [ilt_t (by omega), cond_true, joinK_val]
        have := (f56_find hp ⟨hRl, fun t a b => hi.ok t (Nat.zero_le _) b⟩ hs hf hw (by omega) i 0 (by omega) (by omega)).trans e1
        rw [List.append_assoc] at this
        exact this
      · intro y hy
        rcases List.mem_cons.1 hy with h | h
        · rw [h]; omega
        · exact p1 y h
      · refine List.nodup_cons.2 ⟨fun h => ?_, p2⟩
        have := p3 _ h
        rw [Int.toNat_natCast, Nat.testBit_or, Nat.testBit_two_pow_self, Bool.or_true] at this
        cases this
      · intro y hy
        rcases List.mem_cons.1 hy with h | h
        · rw [h, Int.toNat_natCast]; exact g2
        · have := p3 y h
          rw [Nat.testBit_or, Bool.or_eq_false_iff] at this
          exact this.1
      · rw [List.length_cons]; omega
      · have ej : jobAt l (i : Int) = l.getD i (0, 0, 0) := by unfold jobAt; rw [Int.toNat_natCast]
        rw [csum, ej, ← hd, p5, hw, ← g3]
        rfl
    · have hc : ucnt s l.length = 0 := by
        rcases Nat.eq_zero_or_pos (ucnt s l.length) with h | h
        · exact h
        · exact absurd ((ucnt_lt hs).2 h) hlt
      refine ⟨[], ?_, (fun y hy => nomatch hy), List.nodup_nil, (fun y hy => nomatch hy), hc, ?_⟩
      · rw [f56_l4_eq]
        unfold f56_b4
        rw [ilt_f (by omega), cond_false, inB_t (by omega) (by omega), cond_true, List.append_nil]
        rfl
      · have h2 := hi.ok s (Nat.zero_le _) hs
        have e : 2 ^ l.length - 1 - s = 0 := by omega
        rw [e] at h2
        simp only [csum]
        omega
theorem ucnt_none : ∀ k, ucnt 0 k = k
  | 0 => rfl
  | k + 1 => by simp [ucnt, ucnt_none k]
theorem dsum_none (l : List Job) : ∀ k, dsum l 0 k = 0
  | 0 => rfl
  | k + 1 => by simp [dsum, dsum_none l k]
/-- What the best order is. -/
structure BestO (W : Bool) (l : List Job) (o : List Int) (r : Int) : Prop where
  ord : Ord l o
  sum : csum W l o 0 = r
  low : ∀ o', Ord l o' → r ≤ csum W l o' 0
theorem best_of {W : Bool} {l : List Job} (hp : Plan l) {R F : List Int} (hi : TabI W l R F 0) {o : List Int} {r : Int} (h : f56_l4 (l, W, R, [], 0, ()) = some ((o, r, ()), ())) : BestO W l o r := by
  have hpow := pow_len hp
  obtain ⟨p, e1, p1, p2, p3, p4, p5⟩ := f56_got hp hi _ 0 [] rfl (by omega) (by rw [ucnt_none]; simp)
  have e1 : f56_l4 (l, W, R, [], 0, ()) = some ((p, R.getD 0 0, ()), ()) := e1
  rw [h] at e1
  simp only [Option.some.injEq, Prod.mk.injEq, and_true] at e1
  obtain ⟨rfl, rfl⟩ := e1
  rw [ucnt_none] at p4
  rw [dsum_none] at p5
  refine ⟨⟨p1, p2, p4.symm⟩, p5, fun o' ho' => ?_⟩
  have := tab_low hp hi o' 0 (by omega) ho'.rng ho'.nd (fun y _ => Nat.zero_testBit _) (by rw [ucnt_none, ho'.len])
  rw [dsum_none] at this
  exact this
theorem weighted_best {l : List Job} (hp : Plan l) : ∃ (o : List Int) (r : Int), f56 l true = some ((o, r, ()), ()) ∧ f53_57 l () = some ((o, r, ()), ((), ())) ∧ BestO true l o r := by
  have hpow := pow_len hp
  obtain ⟨o, r, h0, h1, h2⟩ := f53_57_is hp
  obtain ⟨R, F, t1, t2, t3⟩ := f53_57_outer hp (2 ^ l.length - 1) _ _ (by omega) (TabI.first hp)
  refine ⟨o, r, h1, h2, best_of hp t1 ?_⟩
  rw [← t2, ← f56_start hp]
  exact h1
theorem fewest_best {l : List Job} (hp : Plan l) : ∃ (o : List Int) (r : Int), f56 l false = some ((o, r, ()), ()) ∧ f53_54 l () = some ((o, r, ()), ((), ())) ∧ BestO false l o r := by
  have hpow := pow_len hp
  obtain ⟨o, r, h0, h1, h2⟩ := f53_54_is hp
  obtain ⟨R, F, t1, t2, t3⟩ := f53_54_outer hp (2 ^ l.length - 1) _ _ (by omega) (TabI.first hp)
  refine ⟨o, r, h1, h2, best_of hp t1 ?_⟩
  rw [← t2, ← f56_start hp]
  exact h1
end Go.Proofs.YtkkefapclohicaaDoor.R
