/- What marking instruments does to memory: the row and the blocks of its elements' numbers are written, nothing else. -/
import Derived.Test.YtddabjnbpndjjaaMA
set_option linter.unusedVariables false
set_option linter.unusedSimpArgs false
namespace Go.Proofs.Ytddabjnbpndjjaa.R
open Go.RowKit
def f20 : List (List Int × Int) → Int → Option Int
  | [], k => some k
  | x :: l, k => cond (decide (0 ≤ k ∧ k + ((x.1.length : Nat) : Int) + 1 ≤ 4611686018427387904)) (f20 l (k + ((x.1.length : Nat) : Int) + 1)) none
def f20_M : EatSem := ⟨20, 32, .pair (.slice 3 (.int .i64)) (.int .i64), f20⟩
theorem f20_call : Callable Try.prog 20 := ⟨Try.f20, (match Try.f20.body with | some c => c | none => .skip), by kernel_rfl, by kernel_rfl, by kernel_rfl⟩

structure Hd (w w' : World) (g n : Nat) : Prop where
  all : ∀ j, j < n → w'.cell? ⟨g, j * 2, none⟩ = w.cell? ⟨g, j * 2, none⟩
theorem Hd.refl (w : World) (g n : Nat) : Hd w w g n := ⟨fun _ _ => rfl⟩
theorem Hd.call {w w1 w2 : World} {g n : Nat} {D : Nat → Prop} (h : Hd w w1 g n) (k : KI w1 w2 D) (hg : ¬ D g) : Hd w w2 g n :=
  ⟨fun j hj => (World.cell?_of_block (k.block g hg)).trans (h.all j hj)⟩
theorem Hd.put {w w1 : World} {g n i : Nat} {x : Value} (h : Hd w w1 g n) : Hd w (w1.setCell ⟨g, i * 2 + 1, none⟩ x) g n :=
  ⟨fun j hj => (World.cell?_setCell_other _ _ _ _ (fun he => by injection he with _ he _; omega)).trans (h.all j hj)⟩

/-- An element's cells. -/
structure El (w : World) (g j : Nat) (D : Nat → Prop) (x : List Int × Int) : Prop where
  hd : ∃ A c, w.cell? ⟨g, j * 2, none⟩ = some (.slice A x.1.length c) ∧ (x.1.length ≠ 0 → ∃ b o, A = some ⟨b, o, none⟩ ∧ D b ∧ ∀ i, i < x.1.length → ∃ z, w.cell? ⟨b, o + i, none⟩ = some (.int .i64 z))
  rep : ∃ z, w.cell? ⟨g, j * 2 + 1, none⟩ = some (.int .i64 z)

theorem el_of {w : World} {v : Value} {l : List (List Int × Int)} {xs : List Value} {D : Nat → Prop} (ho : w.ownsRow 0 32 2 v l.length xs) (hr : RepL D w (.pair (.slice 3 (.int .i64)) (.int .i64)) l xs) (hl : l ≠ []) :
    ∃ g cap, v = .slice (some ⟨g, 0, none⟩) l.length cap ∧ unfr w g ∧ ∀ j x, l[j]? = some x → El w g j D x := by
  obtain ⟨hx, h⟩ := ho
  rcases h with ⟨_, h⟩ | ⟨g, cap, cur, rfl, _, hg, _, _, _, ht⟩
  · exact absurd (List.eq_nil_of_length_eq_zero h) hl
  refine ⟨g, cap, rfl, fun cs T fz hc => ?_, fun j x hj => ?_⟩
  · rw [hg] at hc; injection hc with hc; injection hc with _ _ hc; exact hc.symm
  obtain ⟨hjl, hjx⟩ := List.getElem?_eq_some_iff.mp hj
  obtain ⟨es, hes, he⟩ := repL_seg hr j hjl
  subst hjx
  obtain ⟨c1, c2, e1, ⟨A, c, rfl, _, hA⟩, h2⟩ := hes
  replace h2 : c2 = [.int .i64 (l[j]).2] := h2
  subst h2
  have cellAt : ∀ i v, es[i]? = some v → w.cell? ⟨g, j * 2 + i, none⟩ = some v := by
    intro i v hv
    rw [cell_of_row w g _ cur 32 (0, 0) hg]
    have h1 : es = (xs.drop (j * 2)).take 2 := he
    rw [h1, List.getElem?_take] at hv
    split at hv
    · rw [List.getElem?_drop, ← ht, List.getElem?_take] at hv
      split at hv
      · rw [← Array.getElem?_toList]; exact hv
      · cases hv
    · cases hv
  refine ⟨⟨A, c, cellAt 0 _ (by rw [e1]; rfl), fun hn => ?_⟩, ⟨(l[j]).2, cellAt 1 _ (by rw [e1]; rfl)⟩⟩
  have hne : (l[j]).1 ≠ [] := fun h => hn (by rw [h]; rfl)
  obtain ⟨ad, rfl, hD, hall⟩ := hA hne
  have hc : ∀ i, i < (l[j]).1.length → ∃ z, w.cell? (ad.add i) = some (.int .i64 z) := fun i hi => by
    obtain ⟨es, h1, h2⟩ := hall i hi
    replace h1 : es = [.int .i64 ((l[j]).1.get ⟨i, hi⟩)] := h1
    subst h1
    have h3 := h2 0 _ rfl
    rw [show i * (Ty.int .i64).n + 0 = i from by simp [Ty.n]] at h3
    exact ⟨_, h3⟩
  obtain ⟨b, o, sp⟩ := ad
  cases sp with
  | none =>
    refine ⟨b, o, rfl, hD, fun i hi => ?_⟩
    have e : (⟨b, o, none⟩ : Addr).add i = ⟨b, o + i, none⟩ := by
      unfold Addr.add
      by_cases h0 : i = 0
      · rw [if_pos h0, h0]; rfl
      · rw [if_neg h0]
    rw [← e]
    exact hc i hi
  | some s =>
    exfalso
    obtain ⟨z, hz⟩ := hc 0 (by omega)
    rw [show (⟨b, o, some s⟩ : Addr).add 0 = ⟨b, o, some s⟩ from rfl] at hz
    unfold World.cell? at hz
    split at hz
    · simp at hz
    · cases hz

theorem KI.fr {w w' : World} {D : Nat → Prop} (h : KI w w' D) : Fr w w' D :=
  ⟨h.os, h.tape, h.output, Nat.le_of_eq h.size.symm, fun k _ hk => h.block k hk, fun b hb => unfz_out (by rw [h.size]; exact hb)⟩
theorem frozen_unfr {w : World} {g i : Nat} (h : unfr w g) : w.frozen? ⟨g, i, none⟩ = false := by
  unfold World.frozen?
  cases hb : w.heap[g]? with
  | none => rfl
  | some ob =>
    cases ob with
    | cells cs T fz =>
      have := h cs T fz hb
      subst this
      simp
    | _ => rfl
theorem el_now {w wr : World} {A : Option Addr} {n : Nat} {D E : Nat → Prop} (hn : n ≠ 0) (h : n ≠ 0 → ∃ b o, A = some ⟨b, o, none⟩ ∧ D b ∧ ∀ i, i < n → ∃ z, w.cell? ⟨b, o + i, none⟩ = some (.int .i64 z)) (hk : KI w wr E) (hD : ∀ b, D b → unfr w b) :
    ∃ b o, A = some ⟨b, o, none⟩ ∧ unfr wr b ∧ ∀ j, j < n → ∃ z, wr.cell? ⟨b, o + j, none⟩ = some (.int .i64 z) := by
  obtain ⟨b, o, h1, h2, h3⟩ := h hn
  refine ⟨b, o, h1, hk.unf b (hD b h2), fun j hj => ?_⟩
  obtain ⟨z, hz⟩ := h3 j hj
  exact hk.ints _ z hz

set_option maxHeartbeats 8000000 in
set_option maxRecDepth 100000 in
theorem mk20 (v : Value) (l : List (List Int × Int)) (k r : Int) (w : World) (D : Nat → Prop) (g c : Nat) (hv : v = .slice none 0 0 ∧ l = [] ∨ v = .slice (some ⟨g, 0, none⟩) l.length c) (hu : l ≠ [] → unfr w g ∧ ¬ D g) (hl : ∀ j x, l[j]? = some x → El w g j D x) (hD : ∀ b, D b → unfr w b) (h : f20 l k = some r) :
    Calls Try.prog 20 #[v, .int .i64 k] w fun e w' => e = .returned (.int .i64 r) ∧ KI w w' (fun b => blk v = some b ∨ D b) := by
  obtain ⟨A, cA, rfl, hvA⟩ : ∃ A cA, v = .slice A l.length cA ∧ (l ≠ [] → A = some ⟨g, 0, none⟩) := by
    rcases hv with ⟨rfl, rfl⟩ | rfl
    · exact ⟨none, 0, rfl, fun h => absurd rfl h⟩
    · exact ⟨_, _, rfl, fun _ => rfl⟩
  have hu32 := Try.underlying32
  have HV := As.mk hvA
  have HU := As.mk hu
  have HL := As.mk hl
  have HD := As.mk hD
  have H' := As.mk h
  clear hv hvA hu hl hD h
  go_enter Try.func20, Try.ntmps20
  go_wp2
  go_loopg [1, 5] l.length (fun kq v1 v5 w' => ∃ (x1 x5 : Int), v1 = .int .i64 x1 ∧ v5 = .int .i64 x5 ∧ As (f20 (l.drop x5.toNat) x1 = some r) ∧ As (0 ≤ x5 ∧ x5.toNat + kq = l.length ∧ (x5 ≤ x1 ∨ x5 = 0)) ∧ As (KI w w' (fun b => blk (.slice A l.length cA) = some b ∨ D b)) ∧ As (Hd w w' g l.length))
  case atStart => exact ⟨k, 0, rfl, rfl, H', ⟨by omega, by simp, .inr rfl⟩, ⟨KI.refl _ _⟩, ⟨Hd.refl _ _ _⟩⟩
  case round =>
    clear H'
    obtain ⟨x1, x5, rfl, rfl, HA, HI, HK, HH⟩ := hrel
    cases gk with
    | zero =>
      have c0 : decide (x5 < (l.length : Int)) = false := by have := HI.out; rw [decide_eq_false]; omega
      have e : x1 = r := by
        have h := HA.out
        rw [List.drop_eq_nil_of_le (by have := HI.out; omega)] at h
        exact Option.some.inj h
      subst e
      go_wp2
      go_ret
      exact ⟨rfl, HK.out⟩
    | succ k1 =>
      have c0 : decide (x5 < (l.length : Int)) = true := by have := HI.out; rw [decide_eq_true]; omega
      have hi : x5.toNat < l.length := by have := HI.out; omega
      have hne : l ≠ [] := fun h => by rw [h] at hi; cases hi
      have eA := HV.out hne
      subst eA
      have hx : l[x5.toNat]? = some l[x5.toNat] := List.getElem?_eq_getElem hi
      obtain ⟨x, ex⟩ : ∃ x, x = l[x5.toNat] := ⟨_, rfl⟩
      rw [← ex] at hx
      have h := HA.out
      rw [List.drop_eq_getElem_cons hi, ← ex] at h
      obtain ⟨⟨Ax, cx, hc0, hAx⟩, ⟨zr, hzr⟩⟩ := HL.out x5.toNat x hx
      have hcond : 0 ≤ x1 ∧ x1 + (x.1.length : Int) + 1 ≤ 4611686018427387904 := by
        by_cases hb : 0 ≤ x1 ∧ x1 + (x.1.length : Int) + 1 ≤ 4611686018427387904
        · exact hb
        · simp only [f20, hb, decide_false, cond_false] at h
          cases h
      have h2 : f20 (l.drop (x5.toNat + 1)) (x1 + x.1.length + 1) = some r := by
        simp only [f20, hcond, and_self, decide_true, cond_true] at h
        exact h
      have HC := As.mk hcond
      have HT := As.mk h2
      have hx0 : wr.cell? ⟨g, x5.toNat * 2, none⟩ = some (.slice Ax x.1.length cx) := (HH.out.all x5.toNat hi).trans hc0
      obtain ⟨zr', hx1⟩ := HK.out.ints _ _ hzr
      have HX1 := As.mk hx1
      have HAX := As.mk hAx
      have hng := (HU.out hne).2
      have HNG := As.mk (show ∀ b, (x.1.length ≠ 0 ∧ ∃ o, Ax = some ⟨b, o, none⟩) → D b from fun b ⟨hn, hb⟩ => by
        obtain ⟨b', o', e1, e2, _⟩ := hAx hn
        obtain ⟨o, e⟩ := hb
        rw [e] at e1; injection e1 with e1; injection e1 with e1 _ _; rw [e1]; exact e2)
      have HG := As.mk (HK.out.unf g (HU.out hne).1)
      have p0 : 0 ≤ x5 := HI.out.1
      have q0 : x5 < (l.length : Int) := by have := HI.out; omega
      replace p0 := eq_true p0
      replace q0 := eq_true q0
      have HN := As.mk hng
      clear h h2 hcond hc0 hAx hzr hx1 hng ex
      go_wp2_with (first | (go_at_call 23; (with_reducible refine (mk23 Ax x.1.length cx x1 _ HC.out.1 (by have := HC.out.2; omega) (fun hn => el_now hn HAX.out HK.out HD.out)).mono ?_); rintro e w3 ⟨rfl, hk⟩; have HK3 : As (KI w w3 (fun b => blk (.slice (some ⟨g, 0, none⟩) l.length cA) = some b ∨ D b)) := ⟨HK.out.trans (hk.mono fun b hb => .inr (HNG.out b hb))⟩; have HH3 : As (Hd w w3 g l.length) := ⟨HH.out.call hk (fun h => HN.out (HNG.out g h))⟩; obtain ⟨zr3, hx1⟩ := hk.ints _ _ HX1.out; have hf1 := frozen_unfr (i := x5.toNat * 2 + 1) (hk.unf g HG.out); have HC3 : As (∀ y, KI w (w3.setCell ⟨g, x5.toNat * 2 + 1, none⟩ (.int .i64 y)) (fun b => blk (.slice (some ⟨g, 0, none⟩) l.length cA) = some b ∨ D b)) := ⟨fun y => HK3.out.trans (KI.setCell (D := fun b => blk (.slice (some ⟨g, 0, none⟩) l.length cA) = some b ∨ D b) (.inl rfl) hx1)⟩; clear hk HX1 HK HH HAX))
      go_roundg k1
      case measure => omega
      case rel =>
        have := HC.out; have := HI.out
        have hw : wrap64 (x1 + x.1.length + 1) = x1 + x.1.length + 1 := by unfold wrap64; omega
        have hw5 : wrap64 (x5 + 1) = x5 + 1 := by unfold wrap64; omega
        rw [hw, hw5]
        refine ⟨_, _, rfl, rfl, ⟨?_⟩, ⟨by omega, by omega, by omega⟩, ⟨HC3.out _⟩, ⟨HH3.out.put⟩⟩
        rw [show (x5 + 1).toNat = x5.toNat + 1 from by omega]
        exact HT.out
theorem f20_ok : EatContract Try.prog f20_M := by
  intro w v l xs k r D ho hr hD h
  by_cases hl : l = []
  · subst hl
    have hv : v = .slice none 0 0 ∨ ∃ g c, v = .slice (some ⟨g, 0, none⟩) 0 c := by
      obtain ⟨_, h⟩ := ho
      rcases h with ⟨h, _⟩ | ⟨g, cap, cur, h, _⟩
      · exact .inl h
      · exact .inr ⟨g, cap, h⟩
    have fin : ∀ g c, (v = .slice none 0 0 ∧ ([] : List (List Int × Int)) = [] ∨ v = .slice (some ⟨g, 0, none⟩) ([] : List (List Int × Int)).length c) → _ :=
      fun g c hv => mk20 v [] k r w D g c hv (fun h => absurd rfl h) (fun j x hj => by cases hj) (fun b hb => (hD b hb).2.1) h
    have : Calls Try.prog 20 #[v, .int .i64 k] w fun e w' => e = .returned (.int .i64 r) ∧ KI w w' (fun b => blk v = some b ∨ D b) := by
      rcases hv with hv | ⟨g, c, hv⟩
      · exact fin 0 0 (.inl ⟨hv, rfl⟩)
      · exact fin g c (.inr hv)
    exact this.mono fun e w' ⟨h1, h2⟩ => ⟨h1, h2.fr, h2.unf⟩
  · obtain ⟨g, cap, rfl, hu, hel⟩ := el_of ho hr hl
    exact (mk20 _ l k r w D g cap (.inr rfl) (fun _ => ⟨hu, fun hg => (hD g hg).2.2 rfl⟩) hel (fun b hb => (hD b hb).2.1) h).mono fun e w' ⟨h1, h2⟩ => ⟨h1, h2.fr, h2.unf⟩
end Go.Proofs.Ytddabjnbpndjjaa.R
