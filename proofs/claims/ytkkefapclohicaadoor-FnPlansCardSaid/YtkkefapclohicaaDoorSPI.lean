/- The contracts of strconv.Itoa and strings.Join. -/
import Derived.Test.YtkkefapclohicaaDoorR18
import Derived.Test.YtkkefapclohicaaDoorRD2
import Derived.Test.YtkkefapclohicaaDoorLXB
set_option linter.unusedVariables false
set_option linter.unusedSimpArgs false
namespace Go.Proofs.YtkkefapclohicaaDoor.R
open Go.RowKit Go.Lib Go.Sort
theorem fr_below {w w' : World} {F : Nat → Prop} (h : Below w.heap.size w w') : Fr w w' F := ⟨h.os, h.tape, h.output, h.size, fun k hk _ => h.block k hk, fun _ _ => trivial⟩
theorem fr_grow {w : World} {F : Nat → Prop} {k : Nat} {os : Array Obj} : Fr w (grow (w.drewN k) os) F :=
  ⟨rfl, rfl, rfl, by simp [grow], fun k hk _ => heap_grow_old _ _ hk, fun _ _ => trivial⟩
def okI (n : Int) : Bool := decide (-9223372036854775808 ≤ n) && decide (n ≤ 9223372036854775807)
theorem okI_some {n : Int} (h : okI n = true) : -9223372036854775808 ≤ n ∧ n ≤ 9223372036854775807 := ⟨of_decide_eq_true (Bool.and_eq_true_iff.1 h).1, of_decide_eq_true (Bool.and_eq_true_iff.1 h).2⟩
noncomputable def f65 (n : Int) : Option ((ByteArray × Unit) × Unit) := cond (okI n) (some ((⟨(Lib.itoa n).toArray⟩, ()), ())) none
noncomputable def f65_F : FSem := ⟨65, .v false (.int .i64) [0] .nil, .v false .str [] .nil, fun d => f65 d.1⟩
theorem f65_call : Callable Tryd.prog 65 := ⟨Tryd.f65, bodyOf Tryd.f65, by kernel_rfl, by kernel_rfl, by kernel_rfl⟩
theorem f65_ok : Contract Tryd.prog f65_F := by
  intro w args d r X bs hbs hlt hX harg hr hdoor haw
  obtain ⟨n, u⟩ := d
  obtain ⟨v, vs', cs, hv, hpk, hrep, rfl, rfl⟩ := harg
  have h1 : cs = [v] := hpk
  have h2 : cs = [.int .i64 n] := hrep
  obtain rfl : v = .int .i64 n := (List.cons.inj (h1.symm.trans h2)).1
  have ha : args = #[.int .i64 n] := by
    have := congrArg List.toArray hv
    simpa using this
  have hm : ∀ w' ok, MutR ok w' f65_F.ins r.2 args.toList := fun w' ok => by
    rw [ha]
    exact ⟨.int .i64 n, [], rfl, rfl⟩
  have hr : cond (okI n) (some ((⟨(Lib.itoa n).toArray⟩, ()), ())) none = some r := hr
  have hs := okI_some (cond_some hr).1
  have hr := (Option.some.inj (cond_some hr).2).symm
  refine (ha ▸ Tryd.strconv_Itoa n hs.1 hs.2 w hdoor : Calls Tryd.prog 65 args w _).mono ?_
  rintro e w' ⟨he, k, os, hw⟩
  refine ⟨[.string ⟨(Lib.itoa n).toArray⟩], [], he, List.nodup_nil, (fun b hb => by cases hb), ?_, hm _ _, by rw [hw]; exact fr_grow⟩
  rw [hr]
  exact ⟨_, [], [_], rfl, rfl, rfl, rfl, rfl⟩
theorem f65_k : Ok Tryd.prog f65_F := ⟨f65_ok, f65_call⟩
/-- A slice of strings, cell by cell. -/
theorem str_at {ok : Nat → Prop} {w : World} {x : List ByteArray} {v : Value} (h : Rep ok w (.slice 9 .str) x [v]) :
    ∃ A c, v = .slice A x.length c ∧ x.length ≤ c ∧ (x ≠ [] → ∃ b o, A = some ⟨b, o, none⟩ ∧ b < w.heap.size ∧ ∀ (j : Nat) s, x[j]? = some s → w.cell? ⟨b, o + j, none⟩ = some (.string s)) := by
  obtain ⟨A, c, e, hc, h⟩ := h
  refine ⟨A, c, (List.cons.inj e).1, hc, fun hne => ?_⟩
  have hp : 0 < x.length := by
    rcases Nat.eq_zero_or_pos x.length with h0 | h0
    · exact absurd (List.length_eq_zero_iff.1 h0) hne
    · exact h0
  obtain ⟨ad, rfl, hok, hall⟩ := h hne
  have cells : ∀ (i : Nat) s, x[i]? = some s → w.cell? (ad.add i) = some (.string s) := fun i s hi => by
    obtain ⟨hil, hi⟩ := List.getElem?_eq_some_iff.1 hi
    obtain ⟨es, h1, h2⟩ := hall i hil
    replace h1 : es = [.string (x.get ⟨i, hil⟩)] := h1
    subst h1
    have h3 := h2 0 _ rfl
    rw [show i * Ty.str.n + 0 = i from by simp [Ty.n]] at h3
    rw [h3]
    simp [← hi]
  obtain ⟨b, o, sp⟩ := ad
  have h0 := cells 0 _ (List.getElem?_eq_getElem hp)
  cases sp with
  | none =>
    have e : ∀ j, (⟨b, o, none⟩ : Addr).add j = ⟨b, o + j, none⟩ := fun j => by
      unfold Addr.add
      by_cases h0 : j = 0
      · rw [if_pos h0, h0]; rfl
      · rw [if_neg h0]
    refine ⟨b, o, rfl, ?_, fun j s hj => by rw [← e]; exact cells j s hj⟩
    rw [e] at h0
    exact World.block_lt_of_cell? w _ h0
  | some s =>
    exfalso
    rw [show (⟨b, o, some s⟩ : Addr).add 0 = ⟨b, o, some s⟩ from rfl] at h0
    unfold World.cell? at h0
    split at h0
    · simp at h0
    · cases h0
def joinB (l : List ByteArray) (s : ByteArray) : List UInt8 := Lib.join (l.map (·.data.toList)) s.data.toList
def okJ (l : List ByteArray) (s : ByteArray) : Bool := decide (l.length ≤ 140737488355328) && decide ((joinB l s).length ≤ 140737488355328)
noncomputable def f66 (l : List ByteArray) (s : ByteArray) : Option ((ByteArray × Unit) × Unit) := cond (okJ l s) (some ((⟨(joinB l s).toArray⟩, ()), ())) none
noncomputable def f66_F : FSem := ⟨66, .v false (.slice 9 .str) [0] (.v false .str [1] .nil), .v false .str [] .nil, fun d => f66 d.1 d.2.1⟩
theorem f66_call : Callable Tryd.prog 66 := ⟨Tryd.f66, bodyOf Tryd.f66, by kernel_rfl, by kernel_rfl, by kernel_rfl⟩
theorem f66_ok : Contract Tryd.prog f66_F := by
  intro w args d r X bs hbs hlt hX harg hr hdoor haw
  obtain ⟨l, s, u⟩ := d
  obtain ⟨v, vs', cs, hv, hpk, hrep, v2, vs2, cs2, rfl, hpk2, hrep2, hv2, rfl⟩ := harg
  subst hv2
  have h1 : cs = [v] := hpk
  subst h1
  have h3 : cs2 = [v2] := hpk2
  have h4 : cs2 = [.string s] := hrep2
  obtain rfl : v2 = .string s := (List.cons.inj (h3.symm.trans h4)).1
  have ha : args = #[v, .string s] := by
    have := congrArg List.toArray hv
    simpa using this
  have hm : ∀ w' ok, MutR ok w' f66_F.ins r.2 args.toList := fun w' ok => by
    rw [ha]
    exact ⟨v, [.string s], rfl, .string s, [], rfl, rfl⟩
  have hr : cond (okJ l s) (some ((⟨(joinB l s).toArray⟩, ()), ())) none = some r := hr
  have hs := Bool.and_eq_true_iff.1 (cond_some hr).1
  have hs1 := of_decide_eq_true hs.1
  have hs2 := of_decide_eq_true hs.2
  have hr := (Option.some.inj (cond_some hr).2).symm
  obtain ⟨A, c, hve, hc, hat⟩ := str_at hrep
  have main : Calls Tryd.prog 66 args w fun e w' => e = .returned (.string ⟨(joinB l s).toArray⟩) ∧ Below w.heap.size w w' := by
    rw [ha, hve]
    by_cases hl : l = ([] : List ByteArray)
    · subst hl
      refine (Tryd.strings_Join_none A c s w).mono ?_
      rintro e w' ⟨rfl, rfl⟩
      exact ⟨rfl, Below.refl _ _⟩
    · obtain ⟨b, o, rfl, hb, hcell⟩ := hat hl
      exact Tryd.strings_Join b o c l s w hcell hb hs1 hc hs2
  refine main.mono ?_
  rintro e w' ⟨he, hbel⟩
  refine ⟨[.string ⟨(joinB l s).toArray⟩], [], he, List.nodup_nil, (fun b hb => by cases hb), ?_, hm _ _, fr_below hbel⟩
  rw [hr]
  exact ⟨_, [], [_], rfl, rfl, rfl, rfl, rfl⟩
theorem f66_k : Ok Tryd.prog f66_F := ⟨f66_ok, f66_call⟩
end Go.Proofs.YtkkefapclohicaaDoor.R
