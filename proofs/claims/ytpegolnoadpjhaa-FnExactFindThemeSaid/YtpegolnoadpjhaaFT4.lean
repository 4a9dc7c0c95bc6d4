/- The walk of markIntSS over a row of rows of the call's own. -/
import Derived.Test.YtpegolnoadpjhaaFT3
set_option linter.unusedVariables false
set_option linter.unusedSimpArgs false
namespace Go.Proofs.Ytpegolnoadpjhaa.R
open Go.RowKit
theorem FrG.trans {w w1 w2 : World} {F : Nat → Prop} (h : Fr w w1 F) (k : Fr w1 w2 F) : Fr w w2 F :=
  ⟨k.os.trans h.os, k.tape.trans h.tape, k.output.trans h.output, Nat.le_trans h.size k.size, fun b hb hF => (k.block b (Nat.lt_of_lt_of_le hb h.size) hF).trans (h.block b hb hF), fun _ _ => trivial⟩
set_option maxHeartbeats 8000000 in
set_option maxRecDepth 100000 in
theorem walk_markSS (A : Option Addr) (c : Nat) (L : List (List Int)) (gs : List Nat) (B : Nat) (k0 : Int) (w : World) (h0 : 0 ≤ k0) (hk : k0 + 2 * (L.length : Int) ≤ 1099511627776) (hO : Own2 w B (.slice A L.length c) L gs)
    (hm : ∀ a b k : Int, 0 ≤ k → k ≤ 1099511627776 → f21 [a, b] k = some ((k + 2, ()), ([k, k + 1], ()))) :
    Calls Try.prog 11 #[.slice A L.length c, .int .i64 k0] w fun e w' => e = .returned (.int .i64 (k0 + 2 * (L.length : Int))) ∧ Own2 w' B (.slice A L.length c) (mixM k0 L.length L) gs ∧ Fr w w' (· ∈ gs) := by
  have HO := Kp.mk hO
  have HM := Kp.mk hm
  have HK := Kp.mk (And.intro h0 hk)
  clear hO hm h0 hk
  go_enter Try.func11, Try.ntmps11
  go_wp2
  go_loopg [1, 5] L.length (fun kq v1 v5 wr => ∃ i : Nat, v1 = .int .i64 (k0 + 2 * (i : Int)) ∧ v5 = .int .i64 i ∧ Kp (i + kq = L.length) ∧ Kp (Own2 wr B (.slice A L.length c) (mixM k0 i L) gs) ∧ Kp (Fr w wr (· ∈ gs)))
  case atStart => exact ⟨0, by simp, rfl, ⟨by omega⟩, ⟨by simpa [mixM, mrk] using HO.out⟩, ⟨⟨rfl, rfl, rfl, Nat.le_refl _, fun _ _ _ => rfl, fun _ _ => trivial⟩⟩⟩
  case round =>
    obtain ⟨i, rfl, rfl, HI, HR, HF⟩ := hrel
    cases gk with
    | zero =>
      have ei : i = L.length := by have := HI.out; omega
      subst ei
      go_wp2
      go_ret
      exact ⟨rfl, HR.out, HF.out⟩
    | succ k1 =>
      have hi : i < L.length := by have := HI.out; omega
      have lm : (mixM k0 i L).length = L.length := by unfold mixM; rw [List.length_append, mrk_len, List.length_drop]; omega
      have hgl : i < gs.length := by rw [HR.out.len, lm]; exact hi
      obtain ⟨g, hg⟩ : ∃ g, gs[i]? = some g := ⟨gs[i], List.getElem?_eq_getElem hgl⟩
      obtain ⟨a, b, ex, hh⟩ := HR.out.inner i g _ hg (List.getElem?_eq_getElem (by rw [lm]; exact hi))
      obtain ⟨bo, rfl, hc⟩ : ∃ bo, A = some ⟨bo, 0, none⟩ ∧ wr.cell? ⟨bo, 0 + i, none⟩ = some (encP g) := by
        obtain ⟨hl, ho⟩ := HR.out.outer
        rcases ho with ⟨hv, hz⟩ | ⟨g0, c', cur, hv, hBg, hg0, hnc, hc, hcs, ht⟩
        · rw [lm] at hz; omega
        · injection hv with hA hn hc2
          subst hA
          refine ⟨g0, rfl, ?_⟩
          rw [Lib.cell_of_heap hg0, Nat.zero_add]
          have e3 : (cur.toList.take ((mixM k0 i L).length * 1))[i]? = some (encP g) := by rw [ht, List.getElem?_map, hg]; rfl
          rw [List.getElem?_take, if_pos (by omega), Array.getElem?_toList] at e3
          exact e3
      have c0 : decide ((i : Int) < (L.length : Int)) = true := by rw [decide_eq_true]; omega
      have HH := Kp.mk hh
      have HG := Kp.mk hg
      have HL := Kp.mk hi
      have p0 : (0 : Int) ≤ (i : Int) := by omega
      have p1 : (i : Int) < (L.length : Int) := by omega
      replace p0 := eq_true p0
      replace p1 := eq_true p1
      clear hh hg hgl lm ex
      unfold encP at hc
      rw [Nat.zero_add] at hc
      go_wp2_with fail
      refine (mark_one HH.out (HM.out a b _ (by have := HK.out; omega) (by have := HK.out; have := HL.out; omega))).mono ?_
      rintro e w3 ⟨rfl, h3, hf3⟩
      have HR3 := Kp.mk (HR.out.mark HL.out HG.out h3 hf3)
      have HF3 := Kp.mk (FrG.trans HF.out (⟨hf3.os, hf3.tape, hf3.output, hf3.size, fun j hj hne => hf3.block j hj (fun e => hne (by rw [e]; exact List.mem_of_getElem? HG.out)), hf3.unf⟩ : Fr wr w3 (· ∈ gs)))
      clear h3 hf3
      go_wp2
      go_roundg k1
      case measure => omega
      case rel =>
        have := HI.out; have := HK.out
        refine ⟨i + 1, ?_, ?_, ⟨by omega⟩, HR3, HF3⟩
        · congr 1; omega
        · congr 1; unfold wrap64; omega
end Go.Proofs.Ytpegolnoadpjhaa.R
