/- The contracts of strings.HasSuffix and strings.Split. -/
import Derived.Test.YtkkefapclohicaaDoorR18
import Derived.Test.YtkkefapclohicaaDoorRD1
import Derived.Test.YtkkefapclohicaaDoorLX
import Derived.Lib.Strings
set_option linter.unusedVariables false
set_option linter.unusedSimpArgs false
namespace Go.Proofs.YtkkefapclohicaaDoor.R
open Go.RowKit Go.Lib
theorem repL_str {ok : Nat → Prop} {w : World} : ∀ l : List ByteArray, RepL ok w .str l (l.map Value.string)
  | [] => rfl
  | s :: l => ⟨[.string s], l.map Value.string, rfl, rfl, repL_str l⟩
noncomputable def f76 (s p : ByteArray) : Option ((Bool × Unit) × Unit) := cond (decide (s.size ≤ 9223372036854775807)) (some ((Lib.hasSuffix s.data.toList p.data.toList, ()), ())) none
noncomputable def f76_F : FSem := ⟨76, .v false .str [0] (.v false .str [1] .nil), .v false .bool [] .nil, fun d => f76 d.1 d.2.1⟩
theorem f76_call : Callable Tryd.prog 76 := ⟨Tryd.f76, bodyOf Tryd.f76, by kernel_rfl, by kernel_rfl, by kernel_rfl⟩
theorem f76_ok : Contract Tryd.prog f76_F := by
  intro w args d r X bs hbs hlt hX harg hr hdoor haw
  obtain ⟨s, p, u⟩ := d
  obtain ⟨v, vs', cs, hv, hpk, hrep, v2, vs2, cs2, rfl, hpk2, hrep2, hv2, rfl⟩ := harg
  subst hv2
  have h1 : cs = [v] := hpk
  have h2 : cs = [.string s] := hrep
  have h3 : cs2 = [v2] := hpk2
  have h4 : cs2 = [.string p] := hrep2
  obtain rfl : v = .string s := (List.cons.inj (h1.symm.trans h2)).1
  obtain rfl : v2 = .string p := (List.cons.inj (h3.symm.trans h4)).1
  have ha : args = #[.string s, .string p] := by
    have := congrArg List.toArray hv
    simpa using this
  have hm : ∀ w' ok, MutR ok w' f76_F.ins r.2 args.toList := fun w' ok => by
    rw [ha]
    exact ⟨.string s, [.string p], rfl, .string p, [], rfl, rfl⟩
  have hr : cond (decide (s.size ≤ 9223372036854775807)) (some ((Lib.hasSuffix s.data.toList p.data.toList, ()), ())) none = some r := hr
  have hs := of_decide_eq_true (cond_some hr).1
  have hr := (Option.some.inj (cond_some hr).2).symm
  refine (ha ▸ Tryd.strings_HasSuffix s p w hs : Calls Tryd.prog 76 args w _).mono ?_
  rintro e w' ⟨he, hw⟩
  subst hw
  refine ⟨[.bool (Lib.hasSuffix s.data.toList p.data.toList)], [], he, List.nodup_nil, (fun b hb => by cases hb), ?_, hm _ _, ⟨rfl, rfl, rfl, Nat.le_refl _, fun _ _ _ => rfl, fun _ _ => trivial⟩⟩
  rw [hr]
  exact ⟨_, [], [_], rfl, rfl, rfl, rfl, rfl⟩
theorem f76_k : Ok Tryd.prog f76_F := ⟨f76_ok, f76_call⟩
def okSplit (s p : ByteArray) : Bool := decide (s.size < 4294967281) && decide (1 ≤ p.size)
noncomputable def f77 (s p : ByteArray) : Option ((List ByteArray × Unit) × Unit) := cond (okSplit s p) (some ((Lib.splitB p 0 (Lib.countB s p) s, ()), ())) none
noncomputable def f77_F : FSem := ⟨77, .v false .str [0] (.v false .str [1] .nil), .row 9 .str false true [] .nil, fun d => f77 d.1 d.2.1⟩
theorem f77_call : Callable Tryd.prog 77 := ⟨Tryd.f77, bodyOf Tryd.f77, by kernel_rfl, by kernel_rfl, by kernel_rfl⟩
theorem f77_ok : Contract Tryd.prog f77_F := by
  intro w args d r X bs hbs hlt hX harg hr hdoor haw
  obtain ⟨s, p, u⟩ := d
  obtain ⟨v, vs', cs, hv, hpk, hrep, v2, vs2, cs2, rfl, hpk2, hrep2, hv2, rfl⟩ := harg
  subst hv2
  have h1 : cs = [v] := hpk
  have h2 : cs = [.string s] := hrep
  have h3 : cs2 = [v2] := hpk2
  have h4 : cs2 = [.string p] := hrep2
  obtain rfl : v = .string s := (List.cons.inj (h1.symm.trans h2)).1
  obtain rfl : v2 = .string p := (List.cons.inj (h3.symm.trans h4)).1
  have ha : args = #[.string s, .string p] := by
    have := congrArg List.toArray hv
    simpa using this
  have hm : ∀ w' ok, MutR ok w' f77_F.ins r.2 args.toList := fun w' ok => by
    rw [ha]
    exact ⟨.string s, [.string p], rfl, .string p, [], rfl, rfl⟩
  have hr : cond (okSplit s p) (some ((Lib.splitB p 0 (Lib.countB s p) s, ()), ())) none = some r := hr
  have hs := Bool.and_eq_true_iff.1 (cond_some hr).1
  have hs1 := of_decide_eq_true hs.1
  have hs2 := of_decide_eq_true hs.2
  have hr := (Option.some.inj (cond_some hr).2).symm
  obtain ⟨m, hmax⟩ := hdoor
  have hle := Lib.countB_le p hs2 s.size s (Nat.le_refl _)
  have hlen := Lib.splitB_all p hs2 0 _ s rfl
  have hml : maxLen = 9223372036854775807 := rfl
  refine (ha ▸ Tryd.strings_Split s p m w hs1 hmax hs2 : Calls Tryd.prog 77 args w _).mono ?_
  rintro e w' ⟨he, hw⟩
  generalize hq : Lib.splitB p 0 (Lib.countB s p) s = q at hw hr hlen
  rw [← hlen] at he
  have hw0 : w'.heap[w.heap.size]? = some (.cells (q.map Value.string).toArray 9 (0, 0)) := by
    rw [hw]
    exact Array.getElem?_push_size
  have hsz : w'.heap.size = w.heap.size + 1 := by rw [hw]; exact Array.size_push _
  have hold : ∀ k, k < w.heap.size → w'.heap[k]? = w.heap[k]? := fun k hk => by
    rw [hw]
    show (w.heap.push _)[k]? = _
    rw [Array.getElem?_push, if_neg (by omega)]
  refine ⟨[.slice (some ⟨w.heap.size, 0, none⟩) q.length q.length], [w.heap.size], he, (by simp), (fun b hb => by rw [List.mem_singleton.1 hb]; omega), ?_, hm _ _, ⟨by rw [hw]; rfl, by rw [hw]; rfl, by rw [hw]; rfl, by omega, fun k hk _ => hold k hk, fun _ _ => trivial⟩⟩
  rw [hr]
  refine ⟨.slice (some ⟨w.heap.size, 0, none⟩) q.length q.length, [], q.map Value.string, [], rfl, (fun _ b hb => by cases hb; exact Nat.le_refl _), ?_, repL_str q, rfl, rfl, rfl⟩
  rw [ownsR_row (by rfl)]
  refine ⟨by rw [List.length_map]; exact (Nat.mul_one _).symm, .inr ⟨w.heap.size, q.length, (q.map Value.string).toArray, rfl, Nat.zero_le _, hw0, Nat.le_refl _, by omega, by simp [Ty.n], ?_⟩⟩
  show (q.map Value.string).toArray.toList.take (q.length * 1) = _
  rw [Nat.mul_one]
  show (q.map Value.string).take q.length = _
  exact List.take_of_length_le (by simp)
theorem f77_k : Ok Tryd.prog f77_F := ⟨f77_ok, f77_call⟩
end Go.Proofs.YtkkefapclohicaaDoor.R
