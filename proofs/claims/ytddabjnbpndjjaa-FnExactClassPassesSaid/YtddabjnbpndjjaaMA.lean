/- What marking numbers does to memory that is not told by region: numbers stay numbers, nothing else turns. -/
import Derived.Test.YtddabjnbpndjjaaR19
import Derived.Test.YtddabjnbpndjjaaProg
import Derived.WalkKit
import Derived.OwnWalk
import Derived.Tactics
import Derived.Deep.LoopGhost
import Derived.Laws.Slices
import Derived.Laws.Rows
set_option linter.unusedVariables false
set_option linter.unusedSimpArgs false
namespace Go.Proofs.Ytddabjnbpndjjaa.R
open Go.RowKit
structure As (p : Prop) : Prop where
  out : p
/-- Numbers stay numbers; what lies outside D stays. -/
structure KI (w w' : World) (D : Nat → Prop) : Prop where
  os : w'.os = w.os
  tape : w'.tape = w.tape
  output : w'.output = w.output
  size : w'.heap.size = w.heap.size
  block : ∀ k, ¬ D k → w'.heap[k]? = w.heap[k]?
  unf : ∀ b, unfr w b → unfr w' b
  ints : ∀ (p : Addr) z, w.cell? p = some (.int .i64 z) → ∃ z', w'.cell? p = some (.int .i64 z')
theorem KI.refl (w : World) (D : Nat → Prop) : KI w w D := ⟨rfl, rfl, rfl, rfl, fun _ _ => rfl, fun _ h => h, fun _ z h => ⟨z, h⟩⟩
theorem KI.trans {w1 w2 w3 : World} {D : Nat → Prop} (h : KI w1 w2 D) (k : KI w2 w3 D) : KI w1 w3 D :=
  ⟨k.os.trans h.os, k.tape.trans h.tape, k.output.trans h.output, k.size.trans h.size, fun b hb => (k.block b hb).trans (h.block b hb), fun b hb => k.unf b (h.unf b hb), fun p z hz => by obtain ⟨z', h'⟩ := h.ints p z hz; exact k.ints p z' h'⟩
theorem KI.mono {w w' : World} {D D' : Nat → Prop} (h : KI w w' D) (hd : ∀ b, D b → D' b) : KI w w' D' := ⟨h.os, h.tape, h.output, h.size, fun k hk => h.block k fun hD => hk (hd k hD), h.unf, h.ints⟩
theorem KI.setCell {w : World} {D : Nat → Prop} {b o : Nat} {z y : Int} (hb : D b) (hc : w.cell? ⟨b, o, none⟩ = some (.int .i64 z)) : KI w (w.setCell ⟨b, o, none⟩ (.int .i64 y)) D := by
  refine ⟨rfl, rfl, rfl, by simp, fun k hk => heap_setCell_other w _ k _ (fun he => hk (by rw [he]; exact hb)), fun k hu cs T fz hh => ?_, fun p z' hp => ?_⟩
  · have e : (w.setCell ⟨b, o, none⟩ (.int .i64 y)).heap[k]? = if b = k then (w.heap[k]?).map (fun | .cells c t fz => .cells (c.setIfInBounds o (.int .i64 y)) t fz | ob => ob) else w.heap[k]? := by
      simp only [World.setCell, Array.getElem?_modify]
      by_cases hbk : b = k
      · simp only [hbk, if_true]
        cases w.heap[k]? with
        | none => rfl
        | some ob => cases ob <;> rfl
      · simp only [hbk, if_false]
    rw [e] at hh
    split at hh
    · cases hw : w.heap[k]? with
      | none => rw [hw] at hh; cases hh
      | some ob =>
        rw [hw] at hh
        cases ob <;> simp only [Option.map_some, Option.some.injEq] at hh <;> first | (cases hh; done) | skip
        simp only [Obj.cells.injEq] at hh
        obtain ⟨_, _, rfl⟩ := hh
        exact hu _ _ _ hw
    · exact hu cs T fz hh
  · by_cases he : (⟨b, o, none⟩ : Addr) = p
    · subst he
      exact ⟨y, World.cell?_setCell_same _ _ _ hc⟩
    · exact ⟨z', by rw [World.cell?_setCell_other _ _ _ _ he]; exact hp⟩
set_option maxHeartbeats 8000000 in
set_option maxRecDepth 100000 in
theorem mk23 (A : Option Addr) (n c : Nat) (a1 : Int) (w : World) (h0 : 0 ≤ a1) (h1 : a1 + n ≤ 4611686018427387904) (h : n ≠ 0 → ∃ b o, A = some ⟨b, o, none⟩ ∧ unfr w b ∧ ∀ j, j < n → ∃ z, w.cell? ⟨b, o + j, none⟩ = some (.int .i64 z)) :
    Calls Try.prog 23 #[.slice A n c, .int .i64 a1] w fun e w' => e = .returned (.int .i64 (a1 + n)) ∧ KI w w' (fun b => n ≠ 0 ∧ ∃ o, A = some ⟨b, o, none⟩) := by
  have HH := As.mk h
  have H0 := As.mk h0
  have H1 := As.mk h1
  clear h h0 h1
  go_enter Try.func23, Try.ntmps23
  go_wp2
  go_loopg [1, 5] n (fun kq v1 v5 w' => ∃ i : Nat, v1 = .int .i64 (a1 + i) ∧ v5 = .int .i64 i ∧ As (i + kq = n) ∧ As (KI w w' (fun b => n ≠ 0 ∧ ∃ o, A = some ⟨b, o, none⟩)))
  case atStart => exact ⟨0, by simp, by simp, ⟨by omega⟩, ⟨KI.refl _ _⟩⟩
  case round =>
    obtain ⟨i, rfl, rfl, HI, HK⟩ := hrel
    cases gk with
    | zero =>
      have c0 : decide ((i : Int) < (n : Int)) = false := by have := HI.out; rw [decide_eq_false]; omega
      have e : i = n := by have := HI.out; omega
      go_wp2
      go_ret
      subst e
      exact ⟨rfl, HK.out⟩
    | succ k1 =>
      have c0 : decide ((i : Int) < (n : Int)) = true := by have := HI.out; rw [decide_eq_true]; omega
      have hn0 : n ≠ 0 := by have := HI.out; omega
      obtain ⟨b, o, rfl, hu, hall⟩ := HH.out hn0
      obtain ⟨z, hz⟩ := hall i (by have := HI.out; omega)
      obtain ⟨z', hx⟩ := HK.out.ints _ _ hz
      have hf : wr.frozen? ⟨b, o + i, none⟩ = false := by
        unfold World.frozen?
        cases hb : wr.heap[b]? with
        | none => rfl
        | some ob =>
          cases ob with
          | cells cs T fz =>
            have := HK.out.unf b hu cs T fz hb
            subst this
            simp
          | _ => rfl
      have HC := As.mk (KI.setCell (y := a1 + i) (D := fun b' => n ≠ 0 ∧ ∃ o', (some ⟨b, o, none⟩ : Option Addr) = some ⟨b', o', none⟩) ⟨hn0, o, rfl⟩ hx)
      have p0 : (0 : Int) ≤ (i : Int) := by omega
      have q0 : (i : Int) < (n : Int) := by have := HI.out; omega
      replace p0 := eq_true p0
      replace q0 := eq_true q0
      have UH := As.mk hu
      clear hu hall hz
      go_wp2
      go_roundg k1
      case measure => omega
      case rel =>
        have := H0.out; have := H1.out; have := HI.out
        refine ⟨i + 1, ?_, ?_, ⟨by omega⟩, ⟨HK.out.trans HC.out⟩⟩
        · congr 1; unfold wrap64; omega
        · congr 1; unfold wrap64; omega
end Go.Proofs.Ytddabjnbpndjjaa.R
