/- slices.Compare at rows of whole numbers, walked; slices.SortFunc with it, by the shelf's contract. -/
import Derived.Test.YtnkgglghjohdjaaGreatSLA
import Derived.Test.YtnkgglghjohdjaaGreatLX
import Derived.WalkKit
import Derived.OwnWalk
import Derived.Tactics
import Derived.BigCall
import Derived.Deep.LoopGhost
set_option linter.unusedVariables false
set_option linter.unusedSimpArgs false
namespace Go.Proofs.YtnkgglghjohdjaaGreat.R
open Go.RowKit Go.Lib Go.Sort
structure Kl (p : Prop) : Prop where
 out : p
set_option maxHeartbeats 8000000 in
set_option maxRecDepth 100000 in
theorem walk_cmp (A1 A2 : Option Addr) (x y : List Int) (c1 c2 : Nat) (w : World)
  (h1 : ∀ j, j < x.length → ∃ b o, A1 = some ⟨b, o, none⟩ ∧ w.cell? ⟨b, o + j, none⟩ = some (.int .i64 (x.getD j 0)))
  (h2 : ∀ j, j < y.length → ∃ b o, A2 = some ⟨b, o, none⟩ ∧ w.cell? ⟨b, o + j, none⟩ = some (.int .i64 (y.getD j 0)))
  (hx : x.length ≤ 1073741824) (hy : y.length ≤ 1073741824) :
  Calls Tryz.prog 122 #[.slice A1 x.length c1, .slice A2 y.length c2] w fun e w' => e = .returned (.int .i64 (lexZ x y)) ∧ w' = w := by
 have H1 := Kl.mk h1
 have H2 := Kl.mk h2
 clear h1 h2
 go_enter Tryz.func122, Tryz.ntmps122
 go_wp2
 go_loopg [11] x.length (fun g s11 wr => ∃ k : Nat, s11 = .int .i64 k ∧ wr = w ∧ Kl (k ≤ x.length ∧ k ≤ y.length ∧ x.length - k ≤ g ∧ lexZ x y = lexZ (x.drop k) (y.drop k)))
 case atStart => exact ⟨0, rfl, rfl, ⟨Nat.zero_le _, Nat.zero_le _, by omega, rfl⟩⟩
 case round =>
  obtain ⟨k, rfl, rfl, HK⟩ := hrel
  by_cases hlt : k < x.length
  ·obtain ⟨b1, o1, rfl, g1⟩ := H1.out k hlt
   have ex : x.drop k = x.getD k 0 :: x.drop (k + 1) := by
    rw [List.drop_eq_getElem_cons hlt]; simp [hlt]
   by_cases hlt2 : k < y.length
   ·obtain ⟨b2, o2, rfl, g2⟩ := H2.out k hlt2
    have ey : y.drop k = y.getD k 0 :: y.drop (k + 1) := by
     rw [List.drop_eq_getElem_cons hlt2]; simp [hlt2]
    have e := HK.out.2.2.2
    rw [ex, ey] at e
    clear ex ey
    generalize x.getD k 0 = a at g1 e
    generalize y.getD k 0 = b at g2 e
    have e2 : lexZ x y = if Lib.compareInt a b = 0 then lexZ (x.drop (k + 1)) (y.drop (k + 1)) else Lib.compareInt a b := by
     rw [e]
     unfold Lib.compareInt
     simp only [lexZ]
     by_cases h1 : a < b
     ·simp [h1]
     ·by_cases h2 : b < a
      ·simp [h1, h2]
      ·simp [h1, h2]
    clear e
    have hcmp := fun W => Tryz.cmp_Compare_int a b W
    generalize Lib.compareInt a b = c at e2 hcmp
    have HC := Kl.mk hcmp
    have HE := Kl.mk e2
    clear hcmp e2
    by_cases hc : c = 0
    ·subst hc
     go_wp2_with (fail)
     refine (HC.out _).mono ?_
     rintro e w' ⟨rfl, rfl⟩
     go_wp2
     go_roundg (x.length - (k + 1))
     case measure => have := HK.out; omega
     case rel =>
      have hw : wrap64 ((k : Int) + 1) = ((k + 1 : Nat) : Int) := by unfold wrap64; omega
      refine ⟨k + 1, by first | rw [hw] | go_num, rfl, ⟨by omega, by omega, by omega, ?_⟩⟩
      have := HE.out
      first | (rw [if_pos trivial] at this; exact this) | (rw [if_pos rfl] at this; exact this)
    ·go_wp2_with (fail)
     refine (HC.out _).mono ?_
     rintro e w' ⟨rfl, rfl⟩
     go_wp2
     go_ret
     have := HE.out
     rw [if_neg hc] at this
     exact ⟨by rw [this]; rfl, rfl⟩
   ·have hk : k = y.length := by have := HK.out; omega
    subst hk
    go_wp2_with fail
    go_ret
    refine ⟨?_, rfl⟩
    rw [HK.out.2.2.2, ex, List.drop_length]
    rfl
  ·have hk : k = x.length := by have := HK.out; omega
   subst hk
   by_cases hlt2 : x.length < y.length
   ·go_wp2_with fail
    go_ret
    refine ⟨?_, rfl⟩
    rw [HK.out.2.2.2, List.drop_length, List.drop_eq_getElem_cons hlt2]
    rfl
   ·have hxy : x.length = y.length := by have := HK.out; omega
    go_wp2_with fail
    go_ret
    refine ⟨?_, rfl⟩
    rw [HK.out.2.2.2, List.drop_length, hxy, List.drop_length]
    rfl
end Go.Proofs.YtnkgglghjohdjaaGreat.R
