/- What the program's functions compute, as plain functions, and that the program's calls give it. -/
import Derived.Test.YteddiiglonneeaaGreatG1a
import Derived.Test.YteddiiglonneeaaGreatProg
import Derived.KernelRfl
set_option linter.unusedVariables false
set_option maxRecDepth 100000
namespace Go.Proofs.YteddiiglonneeaaGreat.R
/-! laws.FnThemes -/
abbrev f3_R : Type := (Bool × Unit) × Unit
abbrev f3_l0_X : Type := (List (Int × Int × Int)) × (List (Int × Int × Int)) × Bool × (List (List Int)) × (List Int) × (List (Int × Int × Int)) × (List (Int × Int × Int)) × Bool × (List (Int × Int × Int)) × Int × Bool × (List (Int × Int × Int)) × (List (Int × Int × Int)) × Int × Int × Int × Unit
abbrev f3_l2_X : Type := (List (Int × Int × Int)) × (List (Int × Int × Int)) × Bool × (List (List Int)) × (List Int) × Int × (List (Int × Int × Int)) × (List (Int × Int × Int)) × Int × Int × Unit
abbrev f3_l4_X : Type := (List (Int × Int × Int)) × (List (Int × Int × Int)) × (List Int) × (List (List Int)) × Int × Int × Unit
abbrev f3_l6_X : Type := (List (Int × Int × Int)) × (List (Int × Int × Int)) × (List Int) × (List Int) × (List (List Int)) × Int × Int × Int × Int × Unit
abbrev f3_l8_X : Type := (List (Int × Int × Int)) × (List (Int × Int × Int)) × (List Int) × (List Int) × (Int × Int × Int × Unit) × Bool × (List (List Int)) × Int × Int × Int × Int × Int × Int × Unit
abbrev f3_r28_X : Type := (List (Int × Int × Int)) × (List (Int × Int × Int)) × Bool × (List (List Int)) × (List Int) × (List (Int × Int × Int)) × (List (Int × Int × Int)) × Bool × (List (Int × Int × Int)) × Int × Bool × (List (Int × Int × Int)) × (List (Int × Int × Int)) × Int × Int × Int × Bool × Unit
noncomputable def f3_r28 (s0 : f3_l0_X → Option f3_R) (l : (List (Int × Int × Int))) (theme : (List (Int × Int × Int))) (ok : Bool) (found : (List (List Int))) (rhythm : (List Int)) (a : (List (Int × Int × Int))) (v : (List (Int × Int × Int))) (three : Bool) (c : (List (Int × Int × Int))) (times : Int) (seven : Bool) (stretched : (List (Int × Int × Int))) (twice : (List (Int × Int × Int))) (starts : Int) (t226 : Int) (t227 : Int) (t261 : Bool) : Option f3_R :=
  (cond t261
  (some ((false, ()), ()))
  (joinK s0 (some (l, theme, ok, found, rhythm, a, v, three, c, times, seven, stretched, twice, starts, t226, (iadd .i64 t227 1), ()))))
theorem f3_r28_le {s0 s0' : f3_l0_X → Option f3_R} (h0 : LeF s0 s0') (l : (List (Int × Int × Int))) (theme : (List (Int × Int × Int))) (ok : Bool) (found : (List (List Int))) (rhythm : (List Int)) (a : (List (Int × Int × Int))) (v : (List (Int × Int × Int))) (three : Bool) (c : (List (Int × Int × Int))) (times : Int) (seven : Bool) (stretched : (List (Int × Int × Int))) (twice : (List (Int × Int × Int))) (starts : Int) (t226 : Int) (t227 : Int) (t261 : Bool) : Le (f3_r28 s0 l theme ok found rhythm a v three c times seven stretched twice starts t226 t227 t261) (f3_r28 s0' l theme ok found rhythm a v three c times seven stretched twice starts t226 t227 t261) := by
  unfold f3_r28
  repeat (first | exact le_joinK h0 | with_reducible refine le_cond ?_ ?_ | exact Le.refl _)
abbrev f3_r40_X : Type := (List (Int × Int × Int)) × (List (Int × Int × Int)) × Bool × (List (List Int)) × (List Int) × Int × (List (Int × Int × Int)) × (List (Int × Int × Int)) × Int × Int × Bool × Unit
noncomputable def f3_r40 (s2 : f3_l2_X → Option f3_R) (l : (List (Int × Int × Int))) (theme : (List (Int × Int × Int))) (ok : Bool) (found : (List (List Int))) (rhythm : (List Int)) (times : Int) (stretched : (List (Int × Int × Int))) (t295 : (List (Int × Int × Int))) (t296 : Int) (t297 : Int) (t333 : Bool) : Option f3_R :=
  (cond t333
  (some ((false, ()), ()))
  (joinK s2 (some (l, theme, ok, found, rhythm, times, stretched, t295, t296, (iadd .i64 t297 1), ()))))
theorem f3_r40_le {s2 s2' : f3_l2_X → Option f3_R} (h2 : LeF s2 s2') (l : (List (Int × Int × Int))) (theme : (List (Int × Int × Int))) (ok : Bool) (found : (List (List Int))) (rhythm : (List Int)) (times : Int) (stretched : (List (Int × Int × Int))) (t295 : (List (Int × Int × Int))) (t296 : Int) (t297 : Int) (t333 : Bool) : Le (f3_r40 s2 l theme ok found rhythm times stretched t295 t296 t297 t333) (f3_r40 s2' l theme ok found rhythm times stretched t295 t296 t297 t333) := by
  unfold f3_r40
  repeat (first | exact le_joinK h2 | with_reducible refine le_cond ?_ ?_ | exact Le.refl _)
abbrev f3_r57_X : Type := (List (Int × Int × Int)) × (List (Int × Int × Int)) × (List Int) × (List Int) × (Int × Int × Int × Unit) × Bool × (List (List Int)) × Int × Int × Int × Int × Int × Int × Unit
noncomputable def f3_r57 (s4 : f3_l4_X → Option f3_R) (s6 : f3_l6_X → Option f3_R) (s8 : f3_l8_X → Option f3_R) (l : (List (Int × Int × Int))) (theme : (List (Int × Int × Int))) (rhythm : (List Int)) (x : (List Int)) (y : (Int × Int × Int × Unit)) (there : Bool) (t337 : (List (List Int))) (t338 : Int) (t339 : Int) (t350 : Int) (t351 : Int) (t356 : Int) (t357 : Int) : Option f3_R :=
  (joinK s8 (some (l, theme, rhythm, x, (y.1, y.2.1, y.2.2.1, ()), there, t337, t338, t339, t350, t351, t356, (iadd .i64 t357 1), ())))
theorem f3_r57_le {s4 s4' : f3_l4_X → Option f3_R} (h4 : LeF s4 s4') {s6 s6' : f3_l6_X → Option f3_R} (h6 : LeF s6 s6') {s8 s8' : f3_l8_X → Option f3_R} (h8 : LeF s8 s8') (l : (List (Int × Int × Int))) (theme : (List (Int × Int × Int))) (rhythm : (List Int)) (x : (List Int)) (y : (Int × Int × Int × Unit)) (there : Bool) (t337 : (List (List Int))) (t338 : Int) (t339 : Int) (t350 : Int) (t351 : Int) (t356 : Int) (t357 : Int) : Le (f3_r57 s4 s6 s8 l theme rhythm x y there t337 t338 t339 t350 t351 t356 t357) (f3_r57 s4' s6' s8' l theme rhythm x y there t337 t338 t339 t350 t351 t356 t357) := by
  unfold f3_r57
  repeat (first | exact le_joinK h8 | with_reducible refine le_cond ?_ ?_ | exact Le.refl _)
noncomputable def f3_b8 (s4 : f3_l4_X → Option f3_R) (s6 : f3_l6_X → Option f3_R) (s8 : f3_l8_X → Option f3_R) (l : (List (Int × Int × Int))) (theme : (List (Int × Int × Int))) (rhythm : (List Int)) (x : (List Int)) (y : (Int × Int × Int × Unit)) (there : Bool) (t337 : (List (List Int))) (t338 : Int) (t339 : Int) (t350 : Int) (t351 : Int) (t356 : Int) (t357 : Int) : Option f3_R :=
  (cond (ilt t357 t356)
  (cond (inB t357 (List.length l))
  (cond (beq_ there false)
  (cond (inB 1 (List.length x))
  (cond (inB 0 (List.length x))
  (joinK (fun (d : f3_r57_X) => f3_r57 s4 s6 s8 d.1 d.2.1 d.2.2.1 d.2.2.2.1 d.2.2.2.2.1 d.2.2.2.2.2.1 d.2.2.2.2.2.2.1 d.2.2.2.2.2.2.2.1 d.2.2.2.2.2.2.2.2.1 d.2.2.2.2.2.2.2.2.2.1 d.2.2.2.2.2.2.2.2.2.2.1 d.2.2.2.2.2.2.2.2.2.2.2.1 d.2.2.2.2.2.2.2.2.2.2.2.2.1) (some (l, theme, rhythm, x, (y.1, y.2.1, y.2.2.1, ()), ((ieq (@rdA (Int × Int × Int) (0, 0, 0) l t357).1 (iadd .i64 y.1 (@rdA Int 0 x 1))) && ((ieq (@rdA (Int × Int × Int) (0, 0, 0) l t357).2.1 (iadd .i64 y.2.1 (@rdA Int 0 x 0))) && ((ieq (@rdA (Int × Int × Int) (0, 0, 0) l t357).2.2 y.2.2.1) && true))), t337, t338, t339, t350, t351, t356, t357, ())))
  none)
  none)
  (joinK (fun (d : f3_r57_X) => f3_r57 s4 s6 s8 d.1 d.2.1 d.2.2.1 d.2.2.2.1 d.2.2.2.2.1 d.2.2.2.2.2.1 d.2.2.2.2.2.2.1 d.2.2.2.2.2.2.2.1 d.2.2.2.2.2.2.2.2.1 d.2.2.2.2.2.2.2.2.2.1 d.2.2.2.2.2.2.2.2.2.2.1 d.2.2.2.2.2.2.2.2.2.2.2.1 d.2.2.2.2.2.2.2.2.2.2.2.2.1) (some (l, theme, rhythm, x, (y.1, y.2.1, y.2.2.1, ()), true, t337, t338, t339, t350, t351, t356, t357, ()))))
  none)
  (cond (!there)
  (some ((false, ()), ()))
  (joinK s6 (some (l, theme, rhythm, x, t337, t338, t339, t350, (iadd .i64 t351 1), ())))))
noncomputable def f3_l8 (s4 : f3_l4_X → Option f3_R) (s6 : f3_l6_X → Option f3_R) : f3_l8_X → Option f3_R := fixD fun s8 (d : f3_l8_X) => f3_b8 s4 s6 s8 d.1 d.2.1 d.2.2.1 d.2.2.2.1 d.2.2.2.2.1 d.2.2.2.2.2.1 d.2.2.2.2.2.2.1 d.2.2.2.2.2.2.2.1 d.2.2.2.2.2.2.2.2.1 d.2.2.2.2.2.2.2.2.2.1 d.2.2.2.2.2.2.2.2.2.2.1 d.2.2.2.2.2.2.2.2.2.2.2.1 d.2.2.2.2.2.2.2.2.2.2.2.2.1
theorem f3_b8_le {s4 s4' : f3_l4_X → Option f3_R} (h4 : LeF s4 s4') {s6 s6' : f3_l6_X → Option f3_R} (h6 : LeF s6 s6') {s8 s8' : f3_l8_X → Option f3_R} (h8 : LeF s8 s8') (l : (List (Int × Int × Int))) (theme : (List (Int × Int × Int))) (rhythm : (List Int)) (x : (List Int)) (y : (Int × Int × Int × Unit)) (there : Bool) (t337 : (List (List Int))) (t338 : Int) (t339 : Int) (t350 : Int) (t351 : Int) (t356 : Int) (t357 : Int) : Le (f3_b8 s4 s6 s8 l theme rhythm x y there t337 t338 t339 t350 t351 t356 t357) (f3_b8 s4' s6' s8' l theme rhythm x y there t337 t338 t339 t350 t351 t356 t357) := by
  unfold f3_b8
  repeat (first | exact le_joinK h6 | exact le_joinK fun d => f3_r57_le h4 h6 h8 _ _ _ _ _ _ _ _ _ _ _ _ _ | with_reducible refine le_cond ?_ ?_ | exact Le.refl _)
theorem f3_l8_mono (s4 : f3_l4_X → Option f3_R) (s6 : f3_l6_X → Option f3_R) : Mono (fun s8 (d : f3_l8_X) => f3_b8 s4 s6 s8 d.1 d.2.1 d.2.2.1 d.2.2.2.1 d.2.2.2.2.1 d.2.2.2.2.2.1 d.2.2.2.2.2.2.1 d.2.2.2.2.2.2.2.1 d.2.2.2.2.2.2.2.2.1 d.2.2.2.2.2.2.2.2.2.1 d.2.2.2.2.2.2.2.2.2.2.1 d.2.2.2.2.2.2.2.2.2.2.2.1 d.2.2.2.2.2.2.2.2.2.2.2.2.1) := fun K K' h d => f3_b8_le (LeF.refl s4) (LeF.refl s6) h _ _ _ _ _ _ _ _ _ _ _ _ _
theorem f3_l8_eq (s4 : f3_l4_X → Option f3_R) (s6 : f3_l6_X → Option f3_R) (l : (List (Int × Int × Int))) (theme : (List (Int × Int × Int))) (rhythm : (List Int)) (x : (List Int)) (y : (Int × Int × Int × Unit)) (there : Bool) (t337 : (List (List Int))) (t338 : Int) (t339 : Int) (t350 : Int) (t351 : Int) (t356 : Int) (t357 : Int) : f3_l8 s4 s6 (l, theme, rhythm, x, y, there, t337, t338, t339, t350, t351, t356, t357, ()) = f3_b8 s4 s6 (f3_l8 s4 s6) l theme rhythm x y there t337 t338 t339 t350 t351 t356 t357 := fixD_eq (f3_l8_mono s4 s6) _
theorem f3_l8_le {s4 s4' : f3_l4_X → Option f3_R} (h4 : LeF s4 s4') {s6 s6' : f3_l6_X → Option f3_R} (h6 : LeF s6 s6') : LeF (f3_l8 s4 s6) (f3_l8 s4' s6') := fixD_le (f3_l8_mono s4 s6) (f3_l8_mono s4' s6') fun K d => f3_b8_le h4 h6 (LeF.refl K) _ _ _ _ _ _ _ _ _ _ _ _ _
noncomputable def f3_b6 (s4 : f3_l4_X → Option f3_R) (s6 : f3_l6_X → Option f3_R) (l : (List (Int × Int × Int))) (theme : (List (Int × Int × Int))) (rhythm : (List Int)) (x : (List Int)) (t337 : (List (List Int))) (t338 : Int) (t339 : Int) (t350 : Int) (t351 : Int) : Option f3_R :=
  (cond (ilt t351 t350)
  (cond (inB t351 (List.length theme))
  (joinK (f3_l8 s4 s6) (some (l, theme, rhythm, x, ((@rdA (Int × Int × Int) (0, 0, 0) theme t351).1, (@rdA (Int × Int × Int) (0, 0, 0) theme t351).2.1, (@rdA (Int × Int × Int) (0, 0, 0) theme t351).2.2, ()), false, t337, t338, t339, t350, t351, ((List.length l : Nat) : Int), 0, ())))
  none)
  (joinK s4 (some (l, theme, rhythm, t337, t338, (iadd .i64 t339 1), ()))))
noncomputable def f3_l6 (s4 : f3_l4_X → Option f3_R) : f3_l6_X → Option f3_R := fixD fun s6 (d : f3_l6_X) => f3_b6 s4 s6 d.1 d.2.1 d.2.2.1 d.2.2.2.1 d.2.2.2.2.1 d.2.2.2.2.2.1 d.2.2.2.2.2.2.1 d.2.2.2.2.2.2.2.1 d.2.2.2.2.2.2.2.2.1
theorem f3_b6_le {s4 s4' : f3_l4_X → Option f3_R} (h4 : LeF s4 s4') {s6 s6' : f3_l6_X → Option f3_R} (h6 : LeF s6 s6') (l : (List (Int × Int × Int))) (theme : (List (Int × Int × Int))) (rhythm : (List Int)) (x : (List Int)) (t337 : (List (List Int))) (t338 : Int) (t339 : Int) (t350 : Int) (t351 : Int) : Le (f3_b6 s4 s6 l theme rhythm x t337 t338 t339 t350 t351) (f3_b6 s4' s6' l theme rhythm x t337 t338 t339 t350 t351) := by
  unfold f3_b6
  repeat (first | exact le_joinK h4 | exact le_joinK (f3_l8_le h4 h6) | with_reducible refine le_cond ?_ ?_ | exact Le.refl _)
theorem f3_l6_mono (s4 : f3_l4_X → Option f3_R) : Mono (fun s6 (d : f3_l6_X) => f3_b6 s4 s6 d.1 d.2.1 d.2.2.1 d.2.2.2.1 d.2.2.2.2.1 d.2.2.2.2.2.1 d.2.2.2.2.2.2.1 d.2.2.2.2.2.2.2.1 d.2.2.2.2.2.2.2.2.1) := fun K K' h d => f3_b6_le (LeF.refl s4) h _ _ _ _ _ _ _ _ _
theorem f3_l6_eq (s4 : f3_l4_X → Option f3_R) (l : (List (Int × Int × Int))) (theme : (List (Int × Int × Int))) (rhythm : (List Int)) (x : (List Int)) (t337 : (List (List Int))) (t338 : Int) (t339 : Int) (t350 : Int) (t351 : Int) : f3_l6 s4 (l, theme, rhythm, x, t337, t338, t339, t350, t351, ()) = f3_b6 s4 (f3_l6 s4) l theme rhythm x t337 t338 t339 t350 t351 := fixD_eq (f3_l6_mono s4) _
theorem f3_l6_le {s4 s4' : f3_l4_X → Option f3_R} (h4 : LeF s4 s4') : LeF (f3_l6 s4) (f3_l6 s4') := fixD_le (f3_l6_mono s4) (f3_l6_mono s4') fun K d => f3_b6_le h4 (LeF.refl K) _ _ _ _ _ _ _ _ _
noncomputable def f3_b4 (s4 : f3_l4_X → Option f3_R) (l : (List (Int × Int × Int))) (theme : (List (Int × Int × Int))) (rhythm : (List Int)) (t337 : (List (List Int))) (t338 : Int) (t339 : Int) : Option f3_R :=
  (cond (ilt t339 t338)
  (cond (inB t339 (List.length t337))
  (cond (inB 0 (List.length (@rdA (List Int) [] t337 t339)))
  (Option.bind (f22 rhythm (@rdA Int 0 (@rdA (List Int) [] t337 t339) 0)) fun r24 =>
  (cond (!r24.1.1)
  (some ((false, ()), ()))
  (joinK (f3_l6 s4) (some (l, theme, rhythm, (@rdA (List Int) [] t337 t339), t337, t338, t339, ((List.length theme : Nat) : Int), 0, ())))))
  none)
  none)
  (some ((true, ()), ())))
noncomputable def f3_l4 : f3_l4_X → Option f3_R := fixD fun s4 (d : f3_l4_X) => f3_b4 s4 d.1 d.2.1 d.2.2.1 d.2.2.2.1 d.2.2.2.2.1 d.2.2.2.2.2.1
theorem f3_b4_le {s4 s4' : f3_l4_X → Option f3_R} (h4 : LeF s4 s4') (l : (List (Int × Int × Int))) (theme : (List (Int × Int × Int))) (rhythm : (List Int)) (t337 : (List (List Int))) (t338 : Int) (t339 : Int) : Le (f3_b4 s4 l theme rhythm t337 t338 t339) (f3_b4 s4' l theme rhythm t337 t338 t339) := by
  unfold f3_b4
  repeat (first | exact le_joinK (f3_l6_le h4) | with_reducible refine le_cond ?_ ?_ | with_reducible refine le_bind fun _ => ?_ | exact Le.refl _)
theorem f3_l4_mono : Mono (fun s4 (d : f3_l4_X) => f3_b4 s4 d.1 d.2.1 d.2.2.1 d.2.2.2.1 d.2.2.2.2.1 d.2.2.2.2.2.1) := fun K K' h d => f3_b4_le h _ _ _ _ _ _
theorem f3_l4_eq (l : (List (Int × Int × Int))) (theme : (List (Int × Int × Int))) (rhythm : (List Int)) (t337 : (List (List Int))) (t338 : Int) (t339 : Int) : f3_l4 (l, theme, rhythm, t337, t338, t339, ()) = f3_b4 (f3_l4) l theme rhythm t337 t338 t339 := fixD_eq (f3_l4_mono) _
abbrev f3_c294_X : Type := (List (Int × Int × Int)) × (List (Int × Int × Int)) × Bool × (List (List Int)) × (List Int) × Unit
noncomputable def f3_c294 (l : (List (Int × Int × Int))) (theme : (List (Int × Int × Int))) (ok : Bool) (found : (List (List Int))) (rhythm : (List Int)) : Option f3_R :=
  (cond (!ok)
  (some ((true, ()), ()))
  (joinK (f3_l4) (some (l, theme, rhythm, found, ((List.length found : Nat) : Int), 0, ()))))
noncomputable def f3_b2 (s2 : f3_l2_X → Option f3_R) (l : (List (Int × Int × Int))) (theme : (List (Int × Int × Int))) (ok : Bool) (found : (List (List Int))) (rhythm : (List Int)) (times : Int) (stretched : (List (Int × Int × Int))) (t295 : (List (Int × Int × Int))) (t296 : Int) (t297 : Int) : Option f3_R :=
  (cond (ilt t297 t296)
  (cond (inB t297 (List.length t295))
  (cond (inB t297 (List.length stretched))
  (cond (beq_ (!ieq (@rdA (Int × Int × Int) (0, 0, 0) stretched t297).2.1 (imul .i64 times (@rdA (Int × Int × Int) (0, 0, 0) t295 t297).2.1)) false)
  (cond (inB t297 (List.length stretched))
  (cond (beq_ (!ieq (@rdA (Int × Int × Int) (0, 0, 0) stretched t297).2.2 (imul .i64 times (@rdA (Int × Int × Int) (0, 0, 0) t295 t297).2.2)) false)
  (cond (inB t297 (List.length stretched))
  (joinK (fun (d : f3_r40_X) => f3_r40 s2 d.1 d.2.1 d.2.2.1 d.2.2.2.1 d.2.2.2.2.1 d.2.2.2.2.2.1 d.2.2.2.2.2.2.1 d.2.2.2.2.2.2.2.1 d.2.2.2.2.2.2.2.2.1 d.2.2.2.2.2.2.2.2.2.1 d.2.2.2.2.2.2.2.2.2.2.1) (some (l, theme, ok, found, rhythm, times, stretched, t295, t296, t297, (!ieq (@rdA (Int × Int × Int) (0, 0, 0) stretched t297).1 (@rdA (Int × Int × Int) (0, 0, 0) t295 t297).1), ())))
  none)
  (joinK (fun (d : f3_r40_X) => f3_r40 s2 d.1 d.2.1 d.2.2.1 d.2.2.2.1 d.2.2.2.2.1 d.2.2.2.2.2.1 d.2.2.2.2.2.2.1 d.2.2.2.2.2.2.2.1 d.2.2.2.2.2.2.2.2.1 d.2.2.2.2.2.2.2.2.2.1 d.2.2.2.2.2.2.2.2.2.2.1) (some (l, theme, ok, found, rhythm, times, stretched, t295, t296, t297, true, ()))))
  none)
  (joinK (fun (d : f3_r40_X) => f3_r40 s2 d.1 d.2.1 d.2.2.1 d.2.2.2.1 d.2.2.2.2.1 d.2.2.2.2.2.1 d.2.2.2.2.2.2.1 d.2.2.2.2.2.2.2.1 d.2.2.2.2.2.2.2.2.1 d.2.2.2.2.2.2.2.2.2.1 d.2.2.2.2.2.2.2.2.2.2.1) (some (l, theme, ok, found, rhythm, times, stretched, t295, t296, t297, true, ()))))
  none)
  none)
  (joinK (fun (d : f3_c294_X) => f3_c294 d.1 d.2.1 d.2.2.1 d.2.2.2.1 d.2.2.2.2.1) (some (l, theme, ok, found, rhythm, ()))))
noncomputable def f3_l2 : f3_l2_X → Option f3_R := fixD fun s2 (d : f3_l2_X) => f3_b2 s2 d.1 d.2.1 d.2.2.1 d.2.2.2.1 d.2.2.2.2.1 d.2.2.2.2.2.1 d.2.2.2.2.2.2.1 d.2.2.2.2.2.2.2.1 d.2.2.2.2.2.2.2.2.1 d.2.2.2.2.2.2.2.2.2.1
theorem f3_b2_le {s2 s2' : f3_l2_X → Option f3_R} (h2 : LeF s2 s2') (l : (List (Int × Int × Int))) (theme : (List (Int × Int × Int))) (ok : Bool) (found : (List (List Int))) (rhythm : (List Int)) (times : Int) (stretched : (List (Int × Int × Int))) (t295 : (List (Int × Int × Int))) (t296 : Int) (t297 : Int) : Le (f3_b2 s2 l theme ok found rhythm times stretched t295 t296 t297) (f3_b2 s2' l theme ok found rhythm times stretched t295 t296 t297) := by
  unfold f3_b2
  repeat (first | exact le_joinK fun d => f3_r40_le h2 _ _ _ _ _ _ _ _ _ _ _ | exact le_joinK fun d => f3_c294_le _ _ _ _ _ | with_reducible refine le_cond ?_ ?_ | exact Le.refl _)
theorem f3_l2_mono : Mono (fun s2 (d : f3_l2_X) => f3_b2 s2 d.1 d.2.1 d.2.2.1 d.2.2.2.1 d.2.2.2.2.1 d.2.2.2.2.2.1 d.2.2.2.2.2.2.1 d.2.2.2.2.2.2.2.1 d.2.2.2.2.2.2.2.2.1 d.2.2.2.2.2.2.2.2.2.1) := fun K K' h d => f3_b2_le h _ _ _ _ _ _ _ _ _ _
theorem f3_l2_eq (l : (List (Int × Int × Int))) (theme : (List (Int × Int × Int))) (ok : Bool) (found : (List (List Int))) (rhythm : (List Int)) (times : Int) (stretched : (List (Int × Int × Int))) (t295 : (List (Int × Int × Int))) (t296 : Int) (t297 : Int) : f3_l2 (l, theme, ok, found, rhythm, times, stretched, t295, t296, t297, ()) = f3_b2 (f3_l2) l theme ok found rhythm times stretched t295 t296 t297 := fixD_eq (f3_l2_mono) _
abbrev f3_c263_X : Type := (List (Int × Int × Int)) × (List (Int × Int × Int)) × Bool × (List (List Int)) × (List Int) × (List (Int × Int × Int)) × Int × Bool × (List (Int × Int × Int)) × Unit
noncomputable def f3_c263 (l : (List (Int × Int × Int))) (theme : (List (Int × Int × Int))) (ok : Bool) (found : (List (List Int))) (rhythm : (List Int)) (c : (List (Int × Int × Int))) (times : Int) (seven : Bool) (stretched : (List (Int × Int × Int))) : Option f3_R :=
  (cond seven
  (joinK (f3_l2) (some (l, theme, ok, found, rhythm, times, stretched, c, ((List.length c : Nat) : Int), 0, ())))
  (joinK (fun (d : f3_c294_X) => f3_c294 d.1 d.2.1 d.2.2.1 d.2.2.2.1 d.2.2.2.2.1) (some (l, theme, ok, found, rhythm, ()))))
abbrev f3_r34_X : Type := (List (Int × Int × Int)) × (List (Int × Int × Int)) × Bool × (List (List Int)) × (List Int) × (List (Int × Int × Int)) × Int × Bool × (List (Int × Int × Int)) × Bool × Unit
noncomputable def f3_r34 (l : (List (Int × Int × Int))) (theme : (List (Int × Int × Int))) (ok : Bool) (found : (List (List Int))) (rhythm : (List Int)) (c : (List (Int × Int × Int))) (times : Int) (seven : Bool) (stretched : (List (Int × Int × Int))) (t293 : Bool) : Option f3_R :=
  (cond t293
  (some ((false, ()), ()))
  (joinK (fun (d : f3_c263_X) => f3_c263 d.1 d.2.1 d.2.2.1 d.2.2.2.1 d.2.2.2.2.1 d.2.2.2.2.2.1 d.2.2.2.2.2.2.1 d.2.2.2.2.2.2.2.1 d.2.2.2.2.2.2.2.2.1) (some (l, theme, ok, found, rhythm, c, times, seven, stretched, ()))))
abbrev f3_r32_X : Type := (List (Int × Int × Int)) × (List (Int × Int × Int)) × Bool × (List (List Int)) × (List Int) × (List (Int × Int × Int)) × (List (Int × Int × Int)) × (List (Int × Int × Int)) × Int × Bool × (List (Int × Int × Int)) × Bool × Unit
noncomputable def f3_r32 (l : (List (Int × Int × Int))) (theme : (List (Int × Int × Int))) (ok : Bool) (found : (List (List Int))) (rhythm : (List Int)) (a : (List (Int × Int × Int))) (v : (List (Int × Int × Int))) (c : (List (Int × Int × Int))) (times : Int) (seven : Bool) (stretched : (List (Int × Int × Int))) (single : Bool) : Option f3_R :=
  (Option.bind (f10 v) fun r22 =>
  (cond (beq_ single true)
  (cond (beq_ (!r22.1.2.1) false)
  (Option.bind (f19 r22.1.1 a) fun r23 =>
  (joinK (fun (d : f3_r34_X) => f3_r34 d.1 d.2.1 d.2.2.1 d.2.2.2.1 d.2.2.2.2.1 d.2.2.2.2.2.1 d.2.2.2.2.2.2.1 d.2.2.2.2.2.2.2.1 d.2.2.2.2.2.2.2.2.1 d.2.2.2.2.2.2.2.2.2.1) (some (l, theme, ok, found, rhythm, c, times, seven, stretched, (!r23.1.1), ()))))
  (joinK (fun (d : f3_r34_X) => f3_r34 d.1 d.2.1 d.2.2.1 d.2.2.2.1 d.2.2.2.2.1 d.2.2.2.2.2.1 d.2.2.2.2.2.2.1 d.2.2.2.2.2.2.2.1 d.2.2.2.2.2.2.2.2.1 d.2.2.2.2.2.2.2.2.2.1) (some (l, theme, ok, found, rhythm, c, times, seven, stretched, true, ()))))
  (joinK (fun (d : f3_r34_X) => f3_r34 d.1 d.2.1 d.2.2.1 d.2.2.2.1 d.2.2.2.2.1 d.2.2.2.2.2.1 d.2.2.2.2.2.2.1 d.2.2.2.2.2.2.2.1 d.2.2.2.2.2.2.2.2.1 d.2.2.2.2.2.2.2.2.2.1) (some (l, theme, ok, found, rhythm, c, times, seven, stretched, false, ())))))
abbrev f3_c183_X : Type := (List (Int × Int × Int)) × (List (Int × Int × Int)) × Bool × (List (List Int)) × (List Int) × (List (Int × Int × Int)) × (List (Int × Int × Int)) × Bool × (List (Int × Int × Int)) × Int × Bool × (List (Int × Int × Int)) × Unit
noncomputable def f3_c183 (l : (List (Int × Int × Int))) (theme : (List (Int × Int × Int))) (ok : Bool) (found : (List (List Int))) (rhythm : (List Int)) (a : (List (Int × Int × Int))) (v : (List (Int × Int × Int))) (three : Bool) (c : (List (Int × Int × Int))) (times : Int) (seven : Bool) (stretched : (List (Int × Int × Int))) : Option f3_R :=
  (cond three
  (cond (beq_ (ieq ((List.length a : Nat) : Int) 1) false)
  (cond (inB 1 (List.length a))
  (cond (inB 0 (List.length a))
  (joinK (fun (d : f3_r32_X) => f3_r32 d.1 d.2.1 d.2.2.1 d.2.2.2.1 d.2.2.2.2.1 d.2.2.2.2.2.1 d.2.2.2.2.2.2.1 d.2.2.2.2.2.2.2.1 d.2.2.2.2.2.2.2.2.1 d.2.2.2.2.2.2.2.2.2.1 d.2.2.2.2.2.2.2.2.2.2.1 d.2.2.2.2.2.2.2.2.2.2.2.1) (some (l, theme, ok, found, rhythm, a, v, c, times, seven, stretched, (ilt (@rdA (Int × Int × Int) (0, 0, 0) a 0).2.1 (@rdA (Int × Int × Int) (0, 0, 0) a 1).2.1), ())))
  none)
  none)
  (joinK (fun (d : f3_r32_X) => f3_r32 d.1 d.2.1 d.2.2.1 d.2.2.2.1 d.2.2.2.2.1 d.2.2.2.2.2.1 d.2.2.2.2.2.2.1 d.2.2.2.2.2.2.2.1 d.2.2.2.2.2.2.2.2.1 d.2.2.2.2.2.2.2.2.2.1 d.2.2.2.2.2.2.2.2.2.2.1 d.2.2.2.2.2.2.2.2.2.2.2.1) (some (l, theme, ok, found, rhythm, a, v, c, times, seven, stretched, true, ()))))
  (joinK (fun (d : f3_c263_X) => f3_c263 d.1 d.2.1 d.2.2.1 d.2.2.2.1 d.2.2.2.2.1 d.2.2.2.2.2.1 d.2.2.2.2.2.2.1 d.2.2.2.2.2.2.2.1 d.2.2.2.2.2.2.2.2.1) (some (l, theme, ok, found, rhythm, c, times, seven, stretched, ()))))
noncomputable def f3_b0 (s0 : f3_l0_X → Option f3_R) (l : (List (Int × Int × Int))) (theme : (List (Int × Int × Int))) (ok : Bool) (found : (List (List Int))) (rhythm : (List Int)) (a : (List (Int × Int × Int))) (v : (List (Int × Int × Int))) (three : Bool) (c : (List (Int × Int × Int))) (times : Int) (seven : Bool) (stretched : (List (Int × Int × Int))) (twice : (List (Int × Int × Int))) (starts : Int) (t226 : Int) (t227 : Int) : Option f3_R :=
  (cond (ilt t227 t226)
  (cond (inB t227 (List.length a))
  (cond (inB t227 (List.length twice))
  (cond (beq_ (!ieq (@rdA (Int × Int × Int) (0, 0, 0) twice t227).2.1 (isub .i64 (@rdA (Int × Int × Int) (0, 0, 0) a t227).2.1 starts)) false)
  (cond (inB t227 (List.length twice))
  (cond (beq_ (!ieq (@rdA (Int × Int × Int) (0, 0, 0) twice t227).2.2 (@rdA (Int × Int × Int) (0, 0, 0) a t227).2.2) false)
  (cond (inB t227 (List.length twice))
  (joinK (fun (d : f3_r28_X) => f3_r28 s0 d.1 d.2.1 d.2.2.1 d.2.2.2.1 d.2.2.2.2.1 d.2.2.2.2.2.1 d.2.2.2.2.2.2.1 d.2.2.2.2.2.2.2.1 d.2.2.2.2.2.2.2.2.1 d.2.2.2.2.2.2.2.2.2.1 d.2.2.2.2.2.2.2.2.2.2.1 d.2.2.2.2.2.2.2.2.2.2.2.1 d.2.2.2.2.2.2.2.2.2.2.2.2.1 d.2.2.2.2.2.2.2.2.2.2.2.2.2.1 d.2.2.2.2.2.2.2.2.2.2.2.2.2.2.1 d.2.2.2.2.2.2.2.2.2.2.2.2.2.2.2.1 d.2.2.2.2.2.2.2.2.2.2.2.2.2.2.2.2.1) (some (l, theme, ok, found, rhythm, a, v, three, c, times, seven, stretched, twice, starts, t226, t227, (!ieq (@rdA (Int × Int × Int) (0, 0, 0) twice t227).1 (@rdA (Int × Int × Int) (0, 0, 0) a t227).1), ())))
  none)
  (joinK (fun (d : f3_r28_X) => f3_r28 s0 d.1 d.2.1 d.2.2.1 d.2.2.2.1 d.2.2.2.2.1 d.2.2.2.2.2.1 d.2.2.2.2.2.2.1 d.2.2.2.2.2.2.2.1 d.2.2.2.2.2.2.2.2.1 d.2.2.2.2.2.2.2.2.2.1 d.2.2.2.2.2.2.2.2.2.2.1 d.2.2.2.2.2.2.2.2.2.2.2.1 d.2.2.2.2.2.2.2.2.2.2.2.2.1 d.2.2.2.2.2.2.2.2.2.2.2.2.2.1 d.2.2.2.2.2.2.2.2.2.2.2.2.2.2.1 d.2.2.2.2.2.2.2.2.2.2.2.2.2.2.2.1 d.2.2.2.2.2.2.2.2.2.2.2.2.2.2.2.2.1) (some (l, theme, ok, found, rhythm, a, v, three, c, times, seven, stretched, twice, starts, t226, t227, true, ()))))
  none)
  (joinK (fun (d : f3_r28_X) => f3_r28 s0 d.1 d.2.1 d.2.2.1 d.2.2.2.1 d.2.2.2.2.1 d.2.2.2.2.2.1 d.2.2.2.2.2.2.1 d.2.2.2.2.2.2.2.1 d.2.2.2.2.2.2.2.2.1 d.2.2.2.2.2.2.2.2.2.1 d.2.2.2.2.2.2.2.2.2.2.1 d.2.2.2.2.2.2.2.2.2.2.2.1 d.2.2.2.2.2.2.2.2.2.2.2.2.1 d.2.2.2.2.2.2.2.2.2.2.2.2.2.1 d.2.2.2.2.2.2.2.2.2.2.2.2.2.2.1 d.2.2.2.2.2.2.2.2.2.2.2.2.2.2.2.1 d.2.2.2.2.2.2.2.2.2.2.2.2.2.2.2.2.1) (some (l, theme, ok, found, rhythm, a, v, three, c, times, seven, stretched, twice, starts, t226, t227, true, ()))))
  none)
  none)
  (joinK (fun (d : f3_c183_X) => f3_c183 d.1 d.2.1 d.2.2.1 d.2.2.2.1 d.2.2.2.2.1 d.2.2.2.2.2.1 d.2.2.2.2.2.2.1 d.2.2.2.2.2.2.2.1 d.2.2.2.2.2.2.2.2.1 d.2.2.2.2.2.2.2.2.2.1 d.2.2.2.2.2.2.2.2.2.2.1 d.2.2.2.2.2.2.2.2.2.2.2.1) (some (l, theme, ok, found, rhythm, a, v, three, c, times, seven, stretched, ()))))
noncomputable def f3_l0 : f3_l0_X → Option f3_R := fixD fun s0 (d : f3_l0_X) => f3_b0 s0 d.1 d.2.1 d.2.2.1 d.2.2.2.1 d.2.2.2.2.1 d.2.2.2.2.2.1 d.2.2.2.2.2.2.1 d.2.2.2.2.2.2.2.1 d.2.2.2.2.2.2.2.2.1 d.2.2.2.2.2.2.2.2.2.1 d.2.2.2.2.2.2.2.2.2.2.1 d.2.2.2.2.2.2.2.2.2.2.2.1 d.2.2.2.2.2.2.2.2.2.2.2.2.1 d.2.2.2.2.2.2.2.2.2.2.2.2.2.1 d.2.2.2.2.2.2.2.2.2.2.2.2.2.2.1 d.2.2.2.2.2.2.2.2.2.2.2.2.2.2.2.1
theorem f3_b0_le {s0 s0' : f3_l0_X → Option f3_R} (h0 : LeF s0 s0') (l : (List (Int × Int × Int))) (theme : (List (Int × Int × Int))) (ok : Bool) (found : (List (List Int))) (rhythm : (List Int)) (a : (List (Int × Int × Int))) (v : (List (Int × Int × Int))) (three : Bool) (c : (List (Int × Int × Int))) (times : Int) (seven : Bool) (stretched : (List (Int × Int × Int))) (twice : (List (Int × Int × Int))) (starts : Int) (t226 : Int) (t227 : Int) : Le (f3_b0 s0 l theme ok found rhythm a v three c times seven stretched twice starts t226 t227) (f3_b0 s0' l theme ok found rhythm a v three c times seven stretched twice starts t226 t227) := by
  unfold f3_b0
  repeat (first | exact le_joinK fun d => f3_r28_le h0 _ _ _ _ _ _ _ _ _ _ _ _ _ _ _ _ _ | exact le_joinK fun d => f3_c183_le _ _ _ _ _ _ _ _ _ _ _ _ | with_reducible refine le_cond ?_ ?_ | exact Le.refl _)
theorem f3_l0_mono : Mono (fun s0 (d : f3_l0_X) => f3_b0 s0 d.1 d.2.1 d.2.2.1 d.2.2.2.1 d.2.2.2.2.1 d.2.2.2.2.2.1 d.2.2.2.2.2.2.1 d.2.2.2.2.2.2.2.1 d.2.2.2.2.2.2.2.2.1 d.2.2.2.2.2.2.2.2.2.1 d.2.2.2.2.2.2.2.2.2.2.1 d.2.2.2.2.2.2.2.2.2.2.2.1 d.2.2.2.2.2.2.2.2.2.2.2.2.1 d.2.2.2.2.2.2.2.2.2.2.2.2.2.1 d.2.2.2.2.2.2.2.2.2.2.2.2.2.2.1 d.2.2.2.2.2.2.2.2.2.2.2.2.2.2.2.1) := fun K K' h d => f3_b0_le h _ _ _ _ _ _ _ _ _ _ _ _ _ _ _ _
theorem f3_l0_eq (l : (List (Int × Int × Int))) (theme : (List (Int × Int × Int))) (ok : Bool) (found : (List (List Int))) (rhythm : (List Int)) (a : (List (Int × Int × Int))) (v : (List (Int × Int × Int))) (three : Bool) (c : (List (Int × Int × Int))) (times : Int) (seven : Bool) (stretched : (List (Int × Int × Int))) (twice : (List (Int × Int × Int))) (starts : Int) (t226 : Int) (t227 : Int) : f3_l0 (l, theme, ok, found, rhythm, a, v, three, c, times, seven, stretched, twice, starts, t226, t227, ()) = f3_b0 (f3_l0) l theme ok found rhythm a v three c times seven stretched twice starts t226 t227 := fixD_eq (f3_l0_mono) _
abbrev f3_r22_X : Type := (List (Int × Int × Int)) × (List (Int × Int × Int)) × Bool × (List (List Int)) × (List Int) × (List (Int × Int × Int)) × (List (Int × Int × Int)) × Bool × (List (Int × Int × Int)) × Int × Bool × (List (Int × Int × Int)) × (List (Int × Int × Int)) × Bool × Unit
noncomputable def f3_r22 (l : (List (Int × Int × Int))) (theme : (List (Int × Int × Int))) (ok : Bool) (found : (List (List Int))) (rhythm : (List Int)) (a : (List (Int × Int × Int))) (v : (List (Int × Int × Int))) (three : Bool) (c : (List (Int × Int × Int))) (times : Int) (seven : Bool) (stretched : (List (Int × Int × Int))) (twice : (List (Int × Int × Int))) (t220 : Bool) : Option f3_R :=
  (cond t220
  (some ((false, ()), ()))
  (cond (inB 0 (List.length a))
  (joinK (f3_l0) (some (l, theme, ok, found, rhythm, a, v, three, c, times, seven, stretched, twice, (@rdA (Int × Int × Int) (0, 0, 0) a 0).2.1, ((List.length a : Nat) : Int), 0, ())))
  none))
abbrev f3_r16_X : Type := (List (Int × Int × Int)) × (List (Int × Int × Int)) × Bool × (List (List Int)) × (List Int) × (List (Int × Int × Int)) × (List (Int × Int × Int)) × Bool × (List (Int × Int × Int)) × Bool × (List (Int × Int × Int)) × (List (Int × Int × Int)) × Int × Bool × (List (Int × Int × Int)) × Bool × Unit
noncomputable def f3_r16 (l : (List (Int × Int × Int))) (theme : (List (Int × Int × Int))) (ok : Bool) (found : (List (List Int))) (rhythm : (List Int)) (a : (List (Int × Int × Int))) (v : (List (Int × Int × Int))) (three : Bool) (b : (List (Int × Int × Int))) (five : Bool) (reversed : (List (Int × Int × Int))) (c : (List (Int × Int × Int))) (times : Int) (seven : Bool) (stretched : (List (Int × Int × Int))) (t182 : Bool) : Option f3_R :=
  (cond t182
  (some ((false, ()), ()))
  (cond five
  (Option.bind (f12 b) fun r19 =>
  (Option.bind (f20 b) fun r20 =>
  (Option.bind (f21 reversed) fun r21 =>
  (cond (beq_ (!r19.1.2.1) false)
  (cond (beq_ (!ieq ((List.length r19.1.1 : Nat) : Int) ((List.length a : Nat) : Int)) false)
  (cond (beq_ (!r20.1.2.1) false)
  (cond (beq_ (!r21.1.2.1) false)
  (joinK (fun (d : f3_r22_X) => f3_r22 d.1 d.2.1 d.2.2.1 d.2.2.2.1 d.2.2.2.2.1 d.2.2.2.2.2.1 d.2.2.2.2.2.2.1 d.2.2.2.2.2.2.2.1 d.2.2.2.2.2.2.2.2.1 d.2.2.2.2.2.2.2.2.2.1 d.2.2.2.2.2.2.2.2.2.2.1 d.2.2.2.2.2.2.2.2.2.2.2.1 d.2.2.2.2.2.2.2.2.2.2.2.2.1 d.2.2.2.2.2.2.2.2.2.2.2.2.2.1) (some (l, theme, ok, found, rhythm, a, v, three, c, times, seven, stretched, r19.1.1, (!ieq r20.1.1 r21.1.1), ())))
  (joinK (fun (d : f3_r22_X) => f3_r22 d.1 d.2.1 d.2.2.1 d.2.2.2.1 d.2.2.2.2.1 d.2.2.2.2.2.1 d.2.2.2.2.2.2.1 d.2.2.2.2.2.2.2.1 d.2.2.2.2.2.2.2.2.1 d.2.2.2.2.2.2.2.2.2.1 d.2.2.2.2.2.2.2.2.2.2.1 d.2.2.2.2.2.2.2.2.2.2.2.1 d.2.2.2.2.2.2.2.2.2.2.2.2.1 d.2.2.2.2.2.2.2.2.2.2.2.2.2.1) (some (l, theme, ok, found, rhythm, a, v, three, c, times, seven, stretched, r19.1.1, true, ()))))
  (joinK (fun (d : f3_r22_X) => f3_r22 d.1 d.2.1 d.2.2.1 d.2.2.2.1 d.2.2.2.2.1 d.2.2.2.2.2.1 d.2.2.2.2.2.2.1 d.2.2.2.2.2.2.2.1 d.2.2.2.2.2.2.2.2.1 d.2.2.2.2.2.2.2.2.2.1 d.2.2.2.2.2.2.2.2.2.2.1 d.2.2.2.2.2.2.2.2.2.2.2.1 d.2.2.2.2.2.2.2.2.2.2.2.2.1 d.2.2.2.2.2.2.2.2.2.2.2.2.2.1) (some (l, theme, ok, found, rhythm, a, v, three, c, times, seven, stretched, r19.1.1, true, ()))))
  (joinK (fun (d : f3_r22_X) => f3_r22 d.1 d.2.1 d.2.2.1 d.2.2.2.1 d.2.2.2.2.1 d.2.2.2.2.2.1 d.2.2.2.2.2.2.1 d.2.2.2.2.2.2.2.1 d.2.2.2.2.2.2.2.2.1 d.2.2.2.2.2.2.2.2.2.1 d.2.2.2.2.2.2.2.2.2.2.1 d.2.2.2.2.2.2.2.2.2.2.2.1 d.2.2.2.2.2.2.2.2.2.2.2.2.1 d.2.2.2.2.2.2.2.2.2.2.2.2.2.1) (some (l, theme, ok, found, rhythm, a, v, three, c, times, seven, stretched, r19.1.1, true, ()))))
  (joinK (fun (d : f3_r22_X) => f3_r22 d.1 d.2.1 d.2.2.1 d.2.2.2.1 d.2.2.2.2.1 d.2.2.2.2.2.1 d.2.2.2.2.2.2.1 d.2.2.2.2.2.2.2.1 d.2.2.2.2.2.2.2.2.1 d.2.2.2.2.2.2.2.2.2.1 d.2.2.2.2.2.2.2.2.2.2.1 d.2.2.2.2.2.2.2.2.2.2.2.1 d.2.2.2.2.2.2.2.2.2.2.2.2.1 d.2.2.2.2.2.2.2.2.2.2.2.2.2.1) (some (l, theme, ok, found, rhythm, a, v, three, c, times, seven, stretched, r19.1.1, true, ())))))))
  (joinK (fun (d : f3_c183_X) => f3_c183 d.1 d.2.1 d.2.2.1 d.2.2.2.1 d.2.2.2.2.1 d.2.2.2.2.2.1 d.2.2.2.2.2.2.1 d.2.2.2.2.2.2.2.1 d.2.2.2.2.2.2.2.2.1 d.2.2.2.2.2.2.2.2.2.1 d.2.2.2.2.2.2.2.2.2.2.1 d.2.2.2.2.2.2.2.2.2.2.2.1) (some (l, theme, ok, found, rhythm, a, v, three, c, times, seven, stretched, ())))))
noncomputable def f3 (code : (List Int)) (more : (List Int)) : Option f3_R :=
  (cond (ilt 1048576 (iadd .i64 ((List.length code : Nat) : Int) ((List.length more : Nat) : Int)))
  (some ((true, ()), ()))
  (Option.bind (f4 code) fun r1 =>
  (Option.bind (f5 r1.1.1 r1.1.2.1) fun r2 =>
  (Option.bind (f6 r1.1.1 r1.1.2.1) fun r3 =>
  (Option.bind (f7 r1.1.1 r1.1.2.1) fun r4 =>
  (Option.bind (f8 r1.1.1 r1.1.2.1) fun r5 =>
  (Option.bind (f9 more) fun r6 =>
  (Option.bind (f10 r6.1.1) fun r7 =>
  (Option.bind (f11 r6.1.1) fun r8 =>
  (Option.bind (f12 r6.1.1) fun r9 =>
  (Option.bind (f13 r6.1.1) fun r10 =>
  (Option.bind (f14 more) fun r11 =>
  (Option.bind (f15 r11.1.1 r11.1.2.1) fun r12 =>
  (Option.bind (f16 r11.1.1 r11.1.2.1) fun r13 =>
  (cond (beq_ (!(beq_ r2.1.2.1 r3.1.2.1)) false)
  (Option.bind (f17 r2.1.1 r3.1.1) fun r14 =>
  (cond (beq_ (!r14.1.1) false)
  (cond (beq_ (!(beq_ r4.1.2.1 r5.1.2.1)) false)
  (Option.bind (f18 r4.1.1 r5.1.1) fun r15 =>
  (cond (beq_ (!r15.1.1) false)
  (cond (beq_ (!(beq_ r7.1.2.1 r8.1.2.1)) false)
  (Option.bind (f19 r7.1.1 r8.1.1) fun r16 =>
  (cond (beq_ (!r16.1.1) false)
  (cond (beq_ (!(beq_ r9.1.2.1 r10.1.2.1)) false)
  (Option.bind (f19 r9.1.1 r10.1.1) fun r17 =>
  (cond (beq_ (!r17.1.1) false)
  (cond (beq_ (!(beq_ r12.1.2.1 r13.1.2.1)) false)
  (Option.bind (f19 r12.1.1 r13.1.1) fun r18 =>
  (cond (beq_ (!r18.1.1) false)
  (joinK (fun (d : f3_r16_X) => f3_r16 d.1 d.2.1 d.2.2.1 d.2.2.2.1 d.2.2.2.2.1 d.2.2.2.2.2.1 d.2.2.2.2.2.2.1 d.2.2.2.2.2.2.2.1 d.2.2.2.2.2.2.2.2.1 d.2.2.2.2.2.2.2.2.2.1 d.2.2.2.2.2.2.2.2.2.2.1 d.2.2.2.2.2.2.2.2.2.2.2.1 d.2.2.2.2.2.2.2.2.2.2.2.2.1 d.2.2.2.2.2.2.2.2.2.2.2.2.2.1 d.2.2.2.2.2.2.2.2.2.2.2.2.2.2.1 d.2.2.2.2.2.2.2.2.2.2.2.2.2.2.2.1) (some (r1.1.1, r1.1.2.1, r2.1.2.1, r3.1.1, r5.1.1, r6.1.1, r7.1.1, r7.1.2.1, r9.1.1, r9.1.2.1, r10.1.1, r11.1.1, r11.1.2.1, r12.1.2.1, r13.1.1, (!(beq_ r4.1.2.1 r2.1.2.1)), ())))
  (joinK (fun (d : f3_r16_X) => f3_r16 d.1 d.2.1 d.2.2.1 d.2.2.2.1 d.2.2.2.2.1 d.2.2.2.2.2.1 d.2.2.2.2.2.2.1 d.2.2.2.2.2.2.2.1 d.2.2.2.2.2.2.2.2.1 d.2.2.2.2.2.2.2.2.2.1 d.2.2.2.2.2.2.2.2.2.2.1 d.2.2.2.2.2.2.2.2.2.2.2.1 d.2.2.2.2.2.2.2.2.2.2.2.2.1 d.2.2.2.2.2.2.2.2.2.2.2.2.2.1 d.2.2.2.2.2.2.2.2.2.2.2.2.2.2.1 d.2.2.2.2.2.2.2.2.2.2.2.2.2.2.2.1) (some (r1.1.1, r1.1.2.1, r2.1.2.1, r3.1.1, r5.1.1, r6.1.1, r7.1.1, r7.1.2.1, r9.1.1, r9.1.2.1, r10.1.1, r11.1.1, r11.1.2.1, r12.1.2.1, r13.1.1, true, ())))))
  (joinK (fun (d : f3_r16_X) => f3_r16 d.1 d.2.1 d.2.2.1 d.2.2.2.1 d.2.2.2.2.1 d.2.2.2.2.2.1 d.2.2.2.2.2.2.1 d.2.2.2.2.2.2.2.1 d.2.2.2.2.2.2.2.2.1 d.2.2.2.2.2.2.2.2.2.1 d.2.2.2.2.2.2.2.2.2.2.1 d.2.2.2.2.2.2.2.2.2.2.2.1 d.2.2.2.2.2.2.2.2.2.2.2.2.1 d.2.2.2.2.2.2.2.2.2.2.2.2.2.1 d.2.2.2.2.2.2.2.2.2.2.2.2.2.2.1 d.2.2.2.2.2.2.2.2.2.2.2.2.2.2.2.1) (some (r1.1.1, r1.1.2.1, r2.1.2.1, r3.1.1, r5.1.1, r6.1.1, r7.1.1, r7.1.2.1, r9.1.1, r9.1.2.1, r10.1.1, r11.1.1, r11.1.2.1, r12.1.2.1, r13.1.1, true, ()))))
  (joinK (fun (d : f3_r16_X) => f3_r16 d.1 d.2.1 d.2.2.1 d.2.2.2.1 d.2.2.2.2.1 d.2.2.2.2.2.1 d.2.2.2.2.2.2.1 d.2.2.2.2.2.2.2.1 d.2.2.2.2.2.2.2.2.1 d.2.2.2.2.2.2.2.2.2.1 d.2.2.2.2.2.2.2.2.2.2.1 d.2.2.2.2.2.2.2.2.2.2.2.1 d.2.2.2.2.2.2.2.2.2.2.2.2.1 d.2.2.2.2.2.2.2.2.2.2.2.2.2.1 d.2.2.2.2.2.2.2.2.2.2.2.2.2.2.1 d.2.2.2.2.2.2.2.2.2.2.2.2.2.2.2.1) (some (r1.1.1, r1.1.2.1, r2.1.2.1, r3.1.1, r5.1.1, r6.1.1, r7.1.1, r7.1.2.1, r9.1.1, r9.1.2.1, r10.1.1, r11.1.1, r11.1.2.1, r12.1.2.1, r13.1.1, true, ())))))
  (joinK (fun (d : f3_r16_X) => f3_r16 d.1 d.2.1 d.2.2.1 d.2.2.2.1 d.2.2.2.2.1 d.2.2.2.2.2.1 d.2.2.2.2.2.2.1 d.2.2.2.2.2.2.2.1 d.2.2.2.2.2.2.2.2.1 d.2.2.2.2.2.2.2.2.2.1 d.2.2.2.2.2.2.2.2.2.2.1 d.2.2.2.2.2.2.2.2.2.2.2.1 d.2.2.2.2.2.2.2.2.2.2.2.2.1 d.2.2.2.2.2.2.2.2.2.2.2.2.2.1 d.2.2.2.2.2.2.2.2.2.2.2.2.2.2.1 d.2.2.2.2.2.2.2.2.2.2.2.2.2.2.2.1) (some (r1.1.1, r1.1.2.1, r2.1.2.1, r3.1.1, r5.1.1, r6.1.1, r7.1.1, r7.1.2.1, r9.1.1, r9.1.2.1, r10.1.1, r11.1.1, r11.1.2.1, r12.1.2.1, r13.1.1, true, ()))))
  (joinK (fun (d : f3_r16_X) => f3_r16 d.1 d.2.1 d.2.2.1 d.2.2.2.1 d.2.2.2.2.1 d.2.2.2.2.2.1 d.2.2.2.2.2.2.1 d.2.2.2.2.2.2.2.1 d.2.2.2.2.2.2.2.2.1 d.2.2.2.2.2.2.2.2.2.1 d.2.2.2.2.2.2.2.2.2.2.1 d.2.2.2.2.2.2.2.2.2.2.2.1 d.2.2.2.2.2.2.2.2.2.2.2.2.1 d.2.2.2.2.2.2.2.2.2.2.2.2.2.1 d.2.2.2.2.2.2.2.2.2.2.2.2.2.2.1 d.2.2.2.2.2.2.2.2.2.2.2.2.2.2.2.1) (some (r1.1.1, r1.1.2.1, r2.1.2.1, r3.1.1, r5.1.1, r6.1.1, r7.1.1, r7.1.2.1, r9.1.1, r9.1.2.1, r10.1.1, r11.1.1, r11.1.2.1, r12.1.2.1, r13.1.1, true, ())))))
  (joinK (fun (d : f3_r16_X) => f3_r16 d.1 d.2.1 d.2.2.1 d.2.2.2.1 d.2.2.2.2.1 d.2.2.2.2.2.1 d.2.2.2.2.2.2.1 d.2.2.2.2.2.2.2.1 d.2.2.2.2.2.2.2.2.1 d.2.2.2.2.2.2.2.2.2.1 d.2.2.2.2.2.2.2.2.2.2.1 d.2.2.2.2.2.2.2.2.2.2.2.1 d.2.2.2.2.2.2.2.2.2.2.2.2.1 d.2.2.2.2.2.2.2.2.2.2.2.2.2.1 d.2.2.2.2.2.2.2.2.2.2.2.2.2.2.1 d.2.2.2.2.2.2.2.2.2.2.2.2.2.2.2.1) (some (r1.1.1, r1.1.2.1, r2.1.2.1, r3.1.1, r5.1.1, r6.1.1, r7.1.1, r7.1.2.1, r9.1.1, r9.1.2.1, r10.1.1, r11.1.1, r11.1.2.1, r12.1.2.1, r13.1.1, true, ()))))
  (joinK (fun (d : f3_r16_X) => f3_r16 d.1 d.2.1 d.2.2.1 d.2.2.2.1 d.2.2.2.2.1 d.2.2.2.2.2.1 d.2.2.2.2.2.2.1 d.2.2.2.2.2.2.2.1 d.2.2.2.2.2.2.2.2.1 d.2.2.2.2.2.2.2.2.2.1 d.2.2.2.2.2.2.2.2.2.2.1 d.2.2.2.2.2.2.2.2.2.2.2.1 d.2.2.2.2.2.2.2.2.2.2.2.2.1 d.2.2.2.2.2.2.2.2.2.2.2.2.2.1 d.2.2.2.2.2.2.2.2.2.2.2.2.2.2.1 d.2.2.2.2.2.2.2.2.2.2.2.2.2.2.2.1) (some (r1.1.1, r1.1.2.1, r2.1.2.1, r3.1.1, r5.1.1, r6.1.1, r7.1.1, r7.1.2.1, r9.1.1, r9.1.2.1, r10.1.1, r11.1.1, r11.1.2.1, r12.1.2.1, r13.1.1, true, ())))))
  (joinK (fun (d : f3_r16_X) => f3_r16 d.1 d.2.1 d.2.2.1 d.2.2.2.1 d.2.2.2.2.1 d.2.2.2.2.2.1 d.2.2.2.2.2.2.1 d.2.2.2.2.2.2.2.1 d.2.2.2.2.2.2.2.2.1 d.2.2.2.2.2.2.2.2.2.1 d.2.2.2.2.2.2.2.2.2.2.1 d.2.2.2.2.2.2.2.2.2.2.2.1 d.2.2.2.2.2.2.2.2.2.2.2.2.1 d.2.2.2.2.2.2.2.2.2.2.2.2.2.1 d.2.2.2.2.2.2.2.2.2.2.2.2.2.2.1 d.2.2.2.2.2.2.2.2.2.2.2.2.2.2.2.1) (some (r1.1.1, r1.1.2.1, r2.1.2.1, r3.1.1, r5.1.1, r6.1.1, r7.1.1, r7.1.2.1, r9.1.1, r9.1.2.1, r10.1.1, r11.1.1, r11.1.2.1, r12.1.2.1, r13.1.1, true, ()))))
  (joinK (fun (d : f3_r16_X) => f3_r16 d.1 d.2.1 d.2.2.1 d.2.2.2.1 d.2.2.2.2.1 d.2.2.2.2.2.1 d.2.2.2.2.2.2.1 d.2.2.2.2.2.2.2.1 d.2.2.2.2.2.2.2.2.1 d.2.2.2.2.2.2.2.2.2.1 d.2.2.2.2.2.2.2.2.2.2.1 d.2.2.2.2.2.2.2.2.2.2.2.1 d.2.2.2.2.2.2.2.2.2.2.2.2.1 d.2.2.2.2.2.2.2.2.2.2.2.2.2.1 d.2.2.2.2.2.2.2.2.2.2.2.2.2.2.1 d.2.2.2.2.2.2.2.2.2.2.2.2.2.2.2.1) (some (r1.1.1, r1.1.2.1, r2.1.2.1, r3.1.1, r5.1.1, r6.1.1, r7.1.1, r7.1.2.1, r9.1.1, r9.1.2.1, r10.1.1, r11.1.1, r11.1.2.1, r12.1.2.1, r13.1.1, true, ())))))
  (joinK (fun (d : f3_r16_X) => f3_r16 d.1 d.2.1 d.2.2.1 d.2.2.2.1 d.2.2.2.2.1 d.2.2.2.2.2.1 d.2.2.2.2.2.2.1 d.2.2.2.2.2.2.2.1 d.2.2.2.2.2.2.2.2.1 d.2.2.2.2.2.2.2.2.2.1 d.2.2.2.2.2.2.2.2.2.2.1 d.2.2.2.2.2.2.2.2.2.2.2.1 d.2.2.2.2.2.2.2.2.2.2.2.2.1 d.2.2.2.2.2.2.2.2.2.2.2.2.2.1 d.2.2.2.2.2.2.2.2.2.2.2.2.2.2.1 d.2.2.2.2.2.2.2.2.2.2.2.2.2.2.2.1) (some (r1.1.1, r1.1.2.1, r2.1.2.1, r3.1.1, r5.1.1, r6.1.1, r7.1.1, r7.1.2.1, r9.1.1, r9.1.2.1, r10.1.1, r11.1.1, r11.1.2.1, r12.1.2.1, r13.1.1, true, ()))))))))))))))))))
noncomputable def f3_E : Ctx := ⟨Tryz.prog, 386, [f4_F, f5_F, f6_F, f7_F, f8_F, f9_F, f10_F, f11_F, f12_F, f13_F, f14_F, f15_F, f16_F, f17_F, f18_F, f19_F, f20_F, f21_F, f22_F], { loops := [(0, ⟨[[5], [6], [8], [9], [13], [15, 225], [16], [17], [24], [25], [27], [28], [30], [36], [226], [227]], (.row 44 (.pair (.int .i64) (.pair (.int .i64) (.int .i64))) false true [] (.row 44 (.pair (.int .i64) (.pair (.int .i64) (.int .i64))) false true [] (.v false .bool [] (.row 29 (.slice 3 (.int .i64)) false true [999] (.row 3 (.int .i64) false true [] (.row 44 (.pair (.int .i64) (.pair (.int .i64) (.int .i64))) false true [] (.row 44 (.pair (.int .i64) (.pair (.int .i64) (.int .i64))) false true [] (.v false .bool [] (.row 44 (.pair (.int .i64) (.pair (.int .i64) (.int .i64))) false true [] (.v false (.int .i64) [] (.v false .bool [] (.row 44 (.pair (.int .i64) (.pair (.int .i64) (.int .i64))) false true [] (.row 44 (.pair (.int .i64) (.pair (.int .i64) (.int .i64))) false true [] (.v false (.int .i64) [] (.v false (.int .i64) [] (.v false (.int .i64) [] .nil))))))))))))))))⟩), (2, ⟨[[5], [6], [8], [9], [13], [25], [28], [295], [296], [297]], (.row 44 (.pair (.int .i64) (.pair (.int .i64) (.int .i64))) false true [] (.row 44 (.pair (.int .i64) (.pair (.int .i64) (.int .i64))) false true [] (.v false .bool [] (.row 29 (.slice 3 (.int .i64)) false true [999] (.row 3 (.int .i64) false true [] (.v false (.int .i64) [] (.row 44 (.pair (.int .i64) (.pair (.int .i64) (.int .i64))) false true [] (.row 44 (.pair (.int .i64) (.pair (.int .i64) (.int .i64))) false true [] (.v false (.int .i64) [] (.v false (.int .i64) [] .nil))))))))))⟩), (4, ⟨[[5], [6], [13], [337], [338], [339]], (.row 44 (.pair (.int .i64) (.pair (.int .i64) (.int .i64))) false true [] (.row 44 (.pair (.int .i64) (.pair (.int .i64) (.int .i64))) false true [] (.row 3 (.int .i64) false true [] (.row 29 (.slice 3 (.int .i64)) false true [999] (.v false (.int .i64) [] (.v false (.int .i64) [] .nil))))))⟩), (6, ⟨[[5], [6, 349], [13], [45], [337], [338], [339], [350], [351]], (.row 44 (.pair (.int .i64) (.pair (.int .i64) (.int .i64))) false true [] (.row 44 (.pair (.int .i64) (.pair (.int .i64) (.int .i64))) false true [] (.row 3 (.int .i64) false true [] (.v false (.slice 3 (.int .i64)) [999] (.row 29 (.slice 3 (.int .i64)) false true [999] (.v false (.int .i64) [] (.v false (.int .i64) [] (.v false (.int .i64) [] (.v false (.int .i64) [] .nil)))))))))⟩), (8, ⟨[[5, 355], [6, 349], [13], [45], [47], [48], [337], [338], [339], [350], [351], [356], [357]], (.row 44 (.pair (.int .i64) (.pair (.int .i64) (.int .i64))) false true [] (.row 44 (.pair (.int .i64) (.pair (.int .i64) (.int .i64))) false true [] (.row 3 (.int .i64) false true [] (.v false (.slice 3 (.int .i64)) [999] (.ptr 44 (.v false (.int .i64) [] (.v false (.int .i64) [] (.v false (.int .i64) [] .nil))) (.v false .bool [] (.row 29 (.slice 3 (.int .i64)) false true [999] (.v false (.int .i64) [] (.v false (.int .i64) [] (.v false (.int .i64) [] (.v false (.int .i64) [] (.v false (.int .i64) [] (.v false (.int .i64) [] .nil)))))))))))))⟩)], conds := [(183, ⟨[[5], [6], [8], [9], [13], [15], [16], [17], [24], [25], [27], [28]], (.row 44 (.pair (.int .i64) (.pair (.int .i64) (.int .i64))) false true [] (.row 44 (.pair (.int .i64) (.pair (.int .i64) (.int .i64))) false true [] (.v false .bool [] (.row 29 (.slice 3 (.int .i64)) false true [999] (.row 3 (.int .i64) false true [] (.row 44 (.pair (.int .i64) (.pair (.int .i64) (.int .i64))) false true [] (.row 44 (.pair (.int .i64) (.pair (.int .i64) (.int .i64))) false true [] (.v false .bool [] (.row 44 (.pair (.int .i64) (.pair (.int .i64) (.int .i64))) false true [] (.v false (.int .i64) [] (.v false .bool [] (.row 44 (.pair (.int .i64) (.pair (.int .i64) (.int .i64))) false true [] .nil))))))))))))⟩), (263, ⟨[[5], [6], [8], [9], [13], [24], [25], [27], [28]], (.row 44 (.pair (.int .i64) (.pair (.int .i64) (.int .i64))) false true [] (.row 44 (.pair (.int .i64) (.pair (.int .i64) (.int .i64))) false true [] (.v false .bool [] (.row 29 (.slice 3 (.int .i64)) false true [999] (.row 3 (.int .i64) false true [] (.row 44 (.pair (.int .i64) (.pair (.int .i64) (.int .i64))) false true [] (.v false (.int .i64) [] (.v false .bool [] (.row 44 (.pair (.int .i64) (.pair (.int .i64) (.int .i64))) false true [] .nil)))))))))⟩), (294, ⟨[[5], [6], [8], [9], [13]], (.row 44 (.pair (.int .i64) (.pair (.int .i64) (.int .i64))) false true [] (.row 44 (.pair (.int .i64) (.pair (.int .i64) (.int .i64))) false true [] (.v false .bool [] (.row 29 (.slice 3 (.int .i64)) false true [999] (.row 3 (.int .i64) false true [] .nil)))))⟩)], blocks := [], regions := [(16, ⟨[[5], [6], [8], [9], [13], [15], [16], [17], [20], [21], [22], [24], [25], [27], [28], [182]], (.row 44 (.pair (.int .i64) (.pair (.int .i64) (.int .i64))) false true [] (.row 44 (.pair (.int .i64) (.pair (.int .i64) (.int .i64))) false true [] (.v false .bool [] (.row 29 (.slice 3 (.int .i64)) false true [999] (.row 3 (.int .i64) false true [] (.row 44 (.pair (.int .i64) (.pair (.int .i64) (.int .i64))) false true [] (.row 44 (.pair (.int .i64) (.pair (.int .i64) (.int .i64))) false true [] (.v false .bool [] (.row 44 (.pair (.int .i64) (.pair (.int .i64) (.int .i64))) false true [] (.v false .bool [] (.row 44 (.pair (.int .i64) (.pair (.int .i64) (.int .i64))) false true [] (.row 44 (.pair (.int .i64) (.pair (.int .i64) (.int .i64))) false true [] (.v false (.int .i64) [] (.v false .bool [] (.row 44 (.pair (.int .i64) (.pair (.int .i64) (.int .i64))) false true [] (.v false .bool [] .nil))))))))))))))))⟩), (22, ⟨[[5], [6], [8], [9], [13], [15], [16], [17], [24], [25], [27], [28], [30], [220]], (.row 44 (.pair (.int .i64) (.pair (.int .i64) (.int .i64))) false true [] (.row 44 (.pair (.int .i64) (.pair (.int .i64) (.int .i64))) false true [] (.v false .bool [] (.row 29 (.slice 3 (.int .i64)) false true [999] (.row 3 (.int .i64) false true [] (.row 44 (.pair (.int .i64) (.pair (.int .i64) (.int .i64))) false true [] (.row 44 (.pair (.int .i64) (.pair (.int .i64) (.int .i64))) false true [] (.v false .bool [] (.row 44 (.pair (.int .i64) (.pair (.int .i64) (.int .i64))) false true [] (.v false (.int .i64) [] (.v false .bool [] (.row 44 (.pair (.int .i64) (.pair (.int .i64) (.int .i64))) false true [] (.row 44 (.pair (.int .i64) (.pair (.int .i64) (.int .i64))) false true [] (.v false .bool [] .nil))))))))))))))⟩), (28, ⟨[[5], [6], [8], [9], [13], [15, 225], [16], [17], [24], [25], [27], [28], [30], [36], [226], [227], [261]], (.row 44 (.pair (.int .i64) (.pair (.int .i64) (.int .i64))) false true [] (.row 44 (.pair (.int .i64) (.pair (.int .i64) (.int .i64))) false true [] (.v false .bool [] (.row 29 (.slice 3 (.int .i64)) false true [999] (.row 3 (.int .i64) false true [] (.row 44 (.pair (.int .i64) (.pair (.int .i64) (.int .i64))) false true [] (.row 44 (.pair (.int .i64) (.pair (.int .i64) (.int .i64))) false true [] (.v false .bool [] (.row 44 (.pair (.int .i64) (.pair (.int .i64) (.int .i64))) false true [] (.v false (.int .i64) [] (.v false .bool [] (.row 44 (.pair (.int .i64) (.pair (.int .i64) (.int .i64))) false true [] (.row 44 (.pair (.int .i64) (.pair (.int .i64) (.int .i64))) false true [] (.v false (.int .i64) [] (.v false (.int .i64) [] (.v false (.int .i64) [] (.v false .bool [] .nil)))))))))))))))))⟩), (32, ⟨[[5], [6], [8], [9], [13], [15], [16], [24], [25], [27], [28], [39]], (.row 44 (.pair (.int .i64) (.pair (.int .i64) (.int .i64))) false true [] (.row 44 (.pair (.int .i64) (.pair (.int .i64) (.int .i64))) false true [] (.v false .bool [] (.row 29 (.slice 3 (.int .i64)) false true [999] (.row 3 (.int .i64) false true [] (.row 44 (.pair (.int .i64) (.pair (.int .i64) (.int .i64))) false true [] (.row 44 (.pair (.int .i64) (.pair (.int .i64) (.int .i64))) false true [] (.row 44 (.pair (.int .i64) (.pair (.int .i64) (.int .i64))) false true [] (.v false (.int .i64) [] (.v false .bool [] (.row 44 (.pair (.int .i64) (.pair (.int .i64) (.int .i64))) false true [] (.v false .bool [] .nil))))))))))))⟩), (34, ⟨[[5], [6], [8], [9], [13], [24], [25], [27], [28], [293]], (.row 44 (.pair (.int .i64) (.pair (.int .i64) (.int .i64))) false true [] (.row 44 (.pair (.int .i64) (.pair (.int .i64) (.int .i64))) false true [] (.v false .bool [] (.row 29 (.slice 3 (.int .i64)) false true [999] (.row 3 (.int .i64) false true [] (.row 44 (.pair (.int .i64) (.pair (.int .i64) (.int .i64))) false true [] (.v false (.int .i64) [] (.v false .bool [] (.row 44 (.pair (.int .i64) (.pair (.int .i64) (.int .i64))) false true [] (.v false .bool [] .nil))))))))))⟩), (40, ⟨[[5], [6], [8], [9], [13], [25], [28], [295], [296], [297], [333]], (.row 44 (.pair (.int .i64) (.pair (.int .i64) (.int .i64))) false true [] (.row 44 (.pair (.int .i64) (.pair (.int .i64) (.int .i64))) false true [] (.v false .bool [] (.row 29 (.slice 3 (.int .i64)) false true [999] (.row 3 (.int .i64) false true [] (.v false (.int .i64) [] (.row 44 (.pair (.int .i64) (.pair (.int .i64) (.int .i64))) false true [] (.row 44 (.pair (.int .i64) (.pair (.int .i64) (.int .i64))) false true [] (.v false (.int .i64) [] (.v false (.int .i64) [] (.v false .bool [] .nil)))))))))))⟩), (57, ⟨[[5, 355], [6, 349], [13], [45], [47], [48], [337], [338], [339], [350], [351], [356], [357]], (.row 44 (.pair (.int .i64) (.pair (.int .i64) (.int .i64))) false true [] (.row 44 (.pair (.int .i64) (.pair (.int .i64) (.int .i64))) false true [] (.row 3 (.int .i64) false true [] (.v false (.slice 3 (.int .i64)) [999] (.ptr 44 (.v false (.int .i64) [] (.v false (.int .i64) [] (.v false (.int .i64) [] .nil))) (.v false .bool [] (.row 29 (.slice 3 (.int .i64)) false true [999] (.v false (.int .i64) [] (.v false (.int .i64) [] (.v false (.int .i64) [] (.v false (.int .i64) [] (.v false (.int .i64) [] (.v false (.int .i64) [] .nil)))))))))))))⟩)], order := [] }, [], [], []⟩
noncomputable def f3_F : FSem := ⟨3, (.v false (.slice 5 (.int .u8)) [0] (.v false (.slice 5 (.int .u8)) [1] .nil)), (.v false .bool [] .nil), fun d => f3 d.1 d.2.1⟩
theorem f3_run (code : (List Int)) (more : (List Int)) : f3 code more = runFn f3_E (.v false (.slice 5 (.int .u8)) [0] (.v false (.slice 5 (.int .u8)) [1] .nil)) (.v false .bool [] .nil) [.tmp 4] (bodyOf Tryz.f3) (code, more, ()) := by kernel_rfl
theorem f3_call : Callable Tryz.prog 3 := ⟨Tryz.f3, bodyOf Tryz.f3, by kernel_rfl, by kernel_rfl, by kernel_rfl⟩
theorem f3_ok : Contract Tryz.prog f3_F :=
  contract_of (E := f3_E) (fn := Tryz.f3) (c := bodyOf Tryz.f3) (rv := [.tmp 4])
    ⟨fun F hF => (by
      simp only [f3_E, List.mem_cons, List.not_mem_nil, or_false] at hF
      rcases hF with rfl | rfl | rfl | rfl | rfl | rfl | rfl | rfl | rfl | rfl | rfl | rfl | rfl | rfl | rfl | rfl | rfl | rfl | rfl
      · exact ⟨f4_ok, f4_call⟩
      · exact ⟨f5_ok, f5_call⟩
      · exact ⟨f6_ok, f6_call⟩
      · exact ⟨f7_ok, f7_call⟩
      · exact ⟨f8_ok, f8_call⟩
      · exact ⟨f9_ok, f9_call⟩
      · exact ⟨f10_ok, f10_call⟩
      · exact ⟨f11_ok, f11_call⟩
      · exact ⟨f12_ok, f12_call⟩
      · exact ⟨f13_ok, f13_call⟩
      · exact ⟨f14_ok, f14_call⟩
      · exact ⟨f15_ok, f15_call⟩
      · exact ⟨f16_ok, f16_call⟩
      · exact ⟨f17_ok, f17_call⟩
      · exact ⟨f18_ok, f18_call⟩
      · exact ⟨f19_ok, f19_call⟩
      · exact ⟨f20_ok, f20_call⟩
      · exact ⟨f21_ok, f21_call⟩
      · exact ⟨f22_ok, f22_call⟩), fun M hM => (by cases hM), fun M hM => (by cases hM), fun M hM => (by cases hM)⟩
    (by kernel_rfl) (by kernel_rfl) (by kernel_rfl) (by kernel_rfl) (by kernel_rfl) (by kernel_rfl) (by kernel_rfl) (fun d => by kernel_rfl) (fun d r h => by rw [← h]; exact (f3_run d.1 d.2.1).symm)
end Go.Proofs.YteddiiglonneeaaGreat.R
