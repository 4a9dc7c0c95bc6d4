/- R, part 18: what plain laws use: the least function is a fixed point. -/
import Derived.Test.YtpegolnoadpjhaaR17
set_option linter.unusedVariables false
set_option linter.unusedSectionVars false
namespace Go.Proofs.Ytpegolnoadpjhaa.R
open Go.RowKit
variable [Door]

noncomputable def bodyOf (f : Func) : Code := match f.body with | some c => c | none => .skip

/-- A read, at a plain type. -/
def rdA {A : Type} (z : A) (l : List A) (i : Int) : A := l.getD i.toNat z

/-- Less told, never otherwise. -/
def Le {R : Type} (x y : Option R) : Prop := ∀ r, x = some r → y = some r
def LeF {X R : Type} (K K' : X → Option R) : Prop := ∀ x, Le (K x) (K' x)
def Mono {X Y R : Type} (F : (X → Option R) → Y → Option R) : Prop := ∀ K K', LeF K K' → LeF (F K) (F K')

theorem Le.refl {R : Type} (x : Option R) : Le x x := fun _ h => h
theorem Le.trans {R : Type} {x y z : Option R} (h : Le x y) (k : Le y z) : Le x z := fun r hr => k r (h r hr)
theorem LeF.refl {X R : Type} (K : X → Option R) : LeF K K := fun _ => Le.refl _
theorem le_cond {R : Type} {c : Bool} {a a' b b' : Option R} (h : Le a a') (k : Le b b') : Le (cond c a b) (cond c a' b') := by cases c; exact k; exact h
theorem le_bind {A R : Type} {o : Option A} {f f' : A → Option R} (h : ∀ r, Le (f r) (f' r)) : Le (Option.bind o f) (Option.bind o f') := by
  cases o with
  | none => exact Le.refl _
  | some a => exact h a
theorem le_joinK {X R : Type} {j j' : X → Option R} {o : Option X} (h : LeF j j') : Le (joinK j o) (joinK j' o) := by
  cases o with
  | none => exact Le.refl _
  | some a => exact h a
theorem Le.eq {R : Type} {x y : Option R} (h : Le x y) (k : Le y x) : x = y := by
  cases x with
  | some a => exact (h a rfl).symm
  | none => cases y with
    | none => rfl
    | some b => exact k b rfl
theorem le_agree {R : Type} {x x' y y' : Option R} (h : Le x x') (k : Le y y') : Le (agree x y) (agree x' y') := by
  intro r hr
  obtain ⟨h1, h2⟩ := agree_some hr
  unfold agree
  rw [h r h1, k r h2, if_pos rfl]
theorem le_nilK {A R : Type} {l : List A} {a a' b b' : Option R} (h : Le a a') (k : Le b b') : Le (nilK l a b) (nilK l a' b') := by
  unfold nilK
  exact le_cond (le_agree h k) k
theorem agree_self {R : Type} (x : Option R) : agree x x = x := by unfold agree; rw [if_pos rfl]

section
variable {X R : Type} {F : (X → Option R) → X → Option R}

theorem Ans.step {K : X → Option R} (hK : ∀ y s, K y = some s → Ans F y s) {x : X} {r : R} (h : F K x = some r) : Ans F x r :=
  fun I hI => hI K (fun y s hy => hK y s hy I hI) x r h

theorem Ans.inv {x : X} {r : R} (h : Ans F x r) : ∃ K : X → Option R, (∀ y s, K y = some s → Ans F y s) ∧ F K x = some r :=
  h (fun x r => ∃ K : X → Option R, (∀ y s, K y = some s → Ans F y s) ∧ F K x = some r) fun K hK y s hy =>
    ⟨K, fun z t hz => by obtain ⟨K', h1, h2⟩ := hK z t hz; exact Ans.step h1 h2, hy⟩

theorem Ans.one (hF : Mono F) {x : X} {r r' : R} (h : Ans F x r) (h' : Ans F x r') : r = r' := by
  refine h (fun x r => ∀ r', Ans F x r' → r = r') (fun K hK y s hy s' hs' => ?_) r' h'
  obtain ⟨K', h1, h2⟩ := hs'.inv
  have l1 : LeF K fun z => (K z).or (K' z) := fun z t hz => by simp only [hz, Option.or]
  have l2 : LeF K' fun z => (K z).or (K' z) := fun z t hz => by
    cases hk : K z with
    | none => simp only [hk, Option.or]; exact hz
    | some u => simp only [hk, Option.or]; rw [hK z u hk t (h1 z t hz)]
  have e1 := hF _ _ l1 y s hy
  have e2 := hF _ _ l2 y s' h2
  rw [e1] at e2
  exact Option.some.inj e2

theorem fixD_iff (hF : Mono F) {x : X} {r : R} : fixD F x = some r ↔ Ans F x r := by
  unfold fixD
  constructor
  · intro h
    split at h
    · rename_i hx
      simp only [Option.some.injEq] at h
      rw [← h]
      exact Classical.choose_spec hx
    · cases h
  · intro h
    rw [dif_pos ⟨r, h⟩, Ans.one hF (Classical.choose_spec (⟨r, h⟩ : ∃ r, Ans F x r)) h]

/-- **The least function is a fixed point.** -/
theorem fixD_eq (hF : Mono F) (x : X) : fixD F x = F (fixD F) x := by
  refine Le.eq (fun r h => ?_) (fun r h => ?_)
  · obtain ⟨K, h1, h2⟩ := ((fixD_iff hF).1 h).inv
    exact hF K (fixD F) (fun y s hy => (fixD_iff hF).2 (h1 y s hy)) x r h2
  · exact (fixD_iff hF).2 (Ans.step (fun y s hy => (fixD_iff hF).1 hy) h)

theorem fixD_le {F' : (X → Option R) → X → Option R} (hF : Mono F) (hF' : Mono F') (h : ∀ K, LeF (F K) (F' K)) : LeF (fixD F) (fixD F') := by
  refine fixD_ind (fun x r => fixD F' x = some r) fun K hK x r hr => ?_
  rw [fixD_eq hF']
  exact hF' K (fixD F') (fun y s hy => hK y s hy) x r (h K x r hr)
end

/-! a printed function, in few words -/
def Ok (P : Program) (F : FSem) : Prop := Contract P F ∧ Callable P F.fid
theorem nq {A : Type} {p : A → Prop} : ∀ x ∈ ([] : List A), p x := fun _ h => by cases h
theorem pc {A : Type} {p : A → Prop} {a : A} {l : List A} (h : p a) (t : ∀ x ∈ l, p x) : ∀ x ∈ a :: l, p x := fun x hx => by
  rcases List.mem_cons.1 hx with rfl | hx
  · exact h
  · exact t x hx
theorem ok_of {E : Ctx} {F : FSem} {fn : Func} {rv : List ResultVar} (hE : FnsOk E)
    (h : (E.P.follows .mixedOrders, E.P.funcs[F.fid]?, fn.body, fn.ntmps, fn.results.toList, drawsOk E.h (bodyOf fn), F.ins.no999, (fn.name == "runtime.NumGoroutine")) = (true, some fn, some (bodyOf fn), E.N, rv, true, true, false))
    (hd : ∀ d : F.ins.D, (Nat.ble (F.ins.mk (fun j => [.ext j]) d 0).1.length E.N, F.den d) = (true, runFn E F.ins F.outs rv (bodyOf fn) d)) : Ok E.P F := by
  simp only [Prod.mk.injEq] at h hd
  obtain ⟨h1, h2, h3, h4, h5, h6, h7, h8⟩ := h
  exact ⟨contract_of hE h1 h2 h3 h4 h5 h6 h7 (fun d => (hd d).1) (fun d r h => by rw [← h]; exact (hd d).2.symm), fn, bodyOf fn, h2, h8, h3⟩
end Go.Proofs.Ytpegolnoadpjhaa.R
