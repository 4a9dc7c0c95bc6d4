/- The program's scoreOf hands its row on. -/
import Derived.Test.YtnkgglghjohdjaaGreatTV
import Derived.Test.YtnkgglghjohdjaaGreatG1
set_option linter.unusedVariables false
set_option linter.unusedSimpArgs false
namespace Go.Proofs.YtnkgglghjohdjaaGreat.R
open Go.RowKit Go.Lib
abbrev tyK : Ty := .pair (.int .i64) (.pair (.int .i64) (.int .i64))
theorem rep_row {w : World} {e : TypeId} {t : Ty} {l : List t.D} {xs : List Value} {v : Value} (ho : w.ownsRow 0 e t.n v l.length xs) (hx : RepL (fun _ => False) w t l xs) : Rep (fun b => b < w.heap.size) w (.slice e t) l [v] := by
 rcases ownsRow_len ho with ⟨hv, h0⟩ | ⟨g, c, hv, hmc, hg, hc⟩
 ·rw [hv]
  have : l = [] := List.eq_nil_of_length_eq_zero h0
  subst this
  exact ⟨none, 0, rfl, Nat.le_refl _, fun h => absurd rfl h⟩
 ·rw [hv]
  refine ⟨_, c, rfl, hmc, fun _ => ⟨_, rfl, hg, fun i hi => ?_⟩⟩
  obtain ⟨es, h1, h2⟩ := repL_seg hx i hi
  refine ⟨es, rep_to (fun b hb => hb.elim) h1, fun j v hj => ?_⟩
  rw [add_plain', Nat.zero_add]
  refine hc _ v ?_
  rw [h2, List.getElem?_take] at hj
  split at hj
  ·rwa [List.getElem?_drop] at hj
  ·cases hj
theorem isK {w : World} {v : Value} {q : List (Int × Int × Int)} {b : Bool} (hr : Rep (fun b => b < w.heap.size) w (.slice 65 tyK) q [v]) (h : f43 q = some ((b, ()), ())) :
  Calls Tryz.prog 43 #[v] w fun e w' => e = .returned (.bool b) ∧ Fr w w' (fun _ => False) := by
 refine (f43_k.1 w #[v] (q, ()) ((b, ()), ()) (fun _ b => b < w.heap.size) [] List.nodup_nil (fun b hb => by cases hb) (fun j b h => ⟨h, by simp⟩) ⟨v, [], [v], rfl, rfl, rep_to (fun b hb => ⟨⟨0, by simp, hb⟩, rfl⟩) hr, rfl, rfl⟩ h).mono ?_
 rintro e w' ⟨vs, bo, rfl, _, _, ha, _, hf⟩
 obtain ⟨v1, vs', cs, rfl, hp, hb, rfl, rfl⟩ := ha
 simp only [Rep] at hb
 subst hb
 have hp : [Value.bool b] = [v1] := hp
 cases hp
 exact ⟨rfl, ⟨hf.os, hf.tape, hf.output, hf.size, fun k hk _ => hf.block k hk (by simp), hf.unf⟩⟩
noncomputable def f100 (l : List (Int × Int × Int)) : Option Bool := Option.bind (f43 l) fun r => some r.1.1
noncomputable def f100_P : PassSem := ⟨100, 65, tyK, f100⟩
theorem f100_call : Callable Tryz.prog 100 := ⟨Tryz.f100, bodyOf Tryz.f100, by kernel_rfl, by kernel_rfl, by kernel_rfl⟩
structure LsK (p : Prop) : Prop where
 out : p
set_option maxHeartbeats 8000000 in
set_option maxRecDepth 100000 in
theorem walkK {w : World} {v : Value} {b : Bool} (h : Calls Tryz.prog 43 #[v] w fun e w' => e = .returned (.bool b) ∧ Fr w w' (fun _ => False)) :
  Calls Tryz.prog 100 #[v] w fun e w' => e = .returned (.tuple #[cond b v (.slice none 0 0), .bool b]) ∧ Fr w w' (fun _ => False) := by
 have HC := LsK.mk h
 clear h
 go_enter Tryz.func100, Tryz.ntmps100
 go_wp2_with (fail)
 refine HC.out.mono ?_
 rintro en w1 ⟨rfl, hf⟩
 have HF := LsK.mk hf
 clear hf HC
 cases b with
 | true =>
  go_wp2
  go_ret2
  exact ⟨rfl, HF.out⟩
 | false =>
  go_wp2
  go_ret2
  exact ⟨rfl, HF.out⟩
theorem f100_pass : PassContract Tryz.prog f100_P := by
 intro w v l xs b ho hx hd
 have hd : f100 l = some b := hd
 unfold f100 at hd
 obtain ⟨⟨⟨c, _⟩, _⟩, h1, h2⟩ := Option.bind_eq_some_iff.mp hd
 have h2 : c = b := Option.some.inj h2
 subst h2
 exact walkK (isK (rep_row ho hx) h1)
end Go.Proofs.YtnkgglghjohdjaaGreat.R
