/- R, part 7: memory that is made, written, handed on. -/
import Derived.Test.YtpegolnoadpjhaaR6
set_option linter.unusedVariables false
set_option linter.unusedSectionVars false
set_option linter.unusedSimpArgs false
namespace Go.Proofs.Ytpegolnoadpjhaa.R
open Go.RowKit
variable [Door]

def upd (β : Nat → Value) (n : Nat) (v : Value) (m : Nat) : Value := if m = n then v else β m
theorem upd_eq {β : Nat → Value} {n : Nat} {v : Value} : upd β n v n = v := by simp [upd]
theorem upd_ne {β : Nat → Value} {n m : Nat} {v : Value} (h : m ≠ n) : upd β n v m = β m := by simp [upd, h]

/-- Streams as they were, no block gone. -/
structure Same (w w' : World) : Prop where
  os : w'.os = w.os
  tape : w'.tape = w.tape
  output : w'.output = w.output
  size : w.heap.size ≤ w'.heap.size
  unf : ∀ b, (b < w.heap.size → unfz w b) → unfz w' b
theorem Same.refl (w : World) : Same w w := ⟨rfl, rfl, rfl, Nat.le_refl _, fun _ _ => trivial⟩
theorem Same.alloc (w : World) (o : Obj) (ho : ∀ cs T fz, o = .cells cs T fz → fz = (0, 0)) : Same w (w.alloc o) := ⟨rfl, rfl, rfl, by simp, fun _ _ => trivial⟩
theorem Same.cells (w : World) (cs : Array Value) (T : TypeId) : Same w (w.alloc (.cells cs T)) := Same.alloc w _ fun _ _ _ h => by cases h; rfl

section
variable {G : Cx} {σ : St} {β : Nat → Value} {w w' : World} {P : Program} {R : Type}

def putR (rs : List (Nat × Ent)) (dst : Option Tmp) (e : Ent) : List (Nat × Ent) := match dst with | some d => (d, e) :: rs | none => rs

theorem inv_put {rs : List (Nat × Ent)} {x : Mo} {a : Act} {e : Ent} {v : Value} {dst : Option Tmp} (h : Inv G x rs a) (he : RepE G x e v) (hd : dstOk G.N dst = true) :
    Inv G x (putR rs dst e) (a.put dst v) := by
  cases dst with
  | none => exact h
  | some d =>
    have hlt : d < G.N := Nat.le_of_ble_eq_true hd
    show Inv G x ((d, e) :: rs) (a.put (some d) v)
    refine ⟨h.m, by simp [Act.put, h.size], h.defers, fun r f hr => ?_⟩
    rw [lk_cons] at hr
    split at hr
    · rename_i heq
      subst heq
      cases hr
      rw [sv, if_pos hlt]
      have : d < a.tmps.size := by rw [h.size]; exact hlt
      simp [Act.put, this]
      exact he
    · rename_i hne
      have := h.regs r f hr
      rw [sv] at this ⊢
      split
      · rename_i hr2
        rw [if_pos hr2] at this
        have : RepE G x f (a.tmps.getD r undef) := this
        simp only [Act.put]
        rw [show (a.tmps.setIfInBounds d v).getD r undef = a.tmps.getD r undef by simp [Array.getElem?_setIfInBounds, hne]]
        exact this
      · rename_i hr2
        rw [if_neg hr2] at this
        exact this

theorem put_regs (dst : Option Tmp) (e : Ent) : (σ.put dst e).regs = putR σ.regs dst e := by cases dst <;> rfl
theorem put_mo (dst : Option Tmp) (e : Ent) : (σ.put dst e).mo β w = σ.mo β w := by cases dst <;> rfl

theorem inv_put' {a : Act} {e : Ent} {v : Value} {dst : Option Tmp} (h : Inv G (σ.mo β w) σ.regs a) (he : RepE G (σ.mo β w) e v) (hd : dstOk G.N dst = true) :
    Inv G ((σ.put dst e).mo β w) (σ.put dst e).regs (a.put dst v) := by
  rw [put_mo, put_regs]; exact inv_put h he hd

/-- A new region. -/
theorem add_inv {v : Value} {reg : Reg} (hm : InvM G (σ.mo β w)) (hc : Cls w w') (hs : Same w w') (hb : ∀ b, blk v = some b → w.heap.size ≤ b)
    (hr : Step (σ.mo β w) ((σ.add reg).mo (upd β σ.next v) w') → RepR G ((σ.add reg).mo (upd β σ.next v) w') σ.next reg) :
    Step (σ.mo β w) ((σ.add reg).mo (upd β σ.next v) w') ∧ InvM G ((σ.add reg).mo (upd β σ.next v) w') := by
  have hlk : ∀ n sl, n ≠ σ.next → lk (σ.add reg).mem n = some sl → lk σ.mem n = some sl := fun n sl hn h => by
    simp only [St.add] at h
    rwa [lk_cons_ne (fun h => hn h.symm)] at h
  have hst : Step (σ.mo β w) ((σ.add reg).mo (upd β σ.next v) w') := {
    next := Nat.le_succ _
    size := hs.size
    old := fun ρ sl' h1 h2 => by
      have hne : ρ ≠ σ.next := by have : ρ < σ.next := h1; omega
      exact ⟨sl', hlk ρ sl' hne h2, upd_ne hne, Nat.le_refl _, likeR_refl _⟩
    new := fun ρ b h1 h2 => by
      obtain ⟨⟨sl, h3⟩, h4⟩ := h2
      by_cases hne : ρ = σ.next
      · subst hne
        replace h4 : blk (upd β σ.next v σ.next) = some b := h4
        rw [upd_eq] at h4
        exact .inl (hb b h4)
      · have := hm.next ρ sl (hlk ρ sl hne h3)
        have : ρ < σ.next := this
        replace h1 : σ.next ≤ ρ := h1
        omega
    heap := fun b h => .inl (hc b h) }
  refine ⟨hst, hst.invM hm hs.os hs.tape hs.output (fun ρ sl h => ?_) (fun ρ ρ' b h h' => ?_) (fun ρ sl h => ?_) (fun b hb => hs.unf b fun _ => hm.frame.unf b hb)⟩
  · by_cases hne : ρ = σ.next
    · subst hne
      refine .inr ?_
      have : sl = ⟨0, false, true, reg⟩ := by
        have h2 : lk ((σ.next, (⟨0, false, true, reg⟩ : Slot)) :: σ.mem) σ.next = some sl := h
        rw [lk_cons_eq] at h2; cases h2; rfl
      subst this
      have hB : ∀ b, blk (((σ.add reg).mo (upd β σ.next v) w').β σ.next) = some b → G.B ≤ b := fun b h => by
        have h : blk (upd β σ.next v σ.next) = some b := h
        rw [upd_eq] at h
        exact Nat.le_trans hm.frame.size (hb b h)
      exact ⟨hr hst, fun b h => .inl (hB b h), fun _ => hB⟩
    · exact .inl (hlk ρ sl hne h)
  · have key : ∀ ρ b, ((σ.add reg).mo (upd β σ.next v) w').at ρ b → (ρ = σ.next ∧ w.heap.size ≤ b) ∨ ((σ.mo β w).at ρ b ∧ b < w.heap.size) := by
      intro ρ b ⟨⟨sl, h1⟩, h2⟩
      by_cases hne : ρ = σ.next
      · subst hne
        have h2 : blk (upd β σ.next v σ.next) = some b := h2
        rw [upd_eq] at h2
        exact .inl ⟨rfl, hb b h2⟩
      · have h3 := hlk ρ sl hne h1
        have h2 : blk (upd β σ.next v ρ) = some b := h2
        rw [upd_ne hne] at h2
        refine .inr ⟨⟨⟨sl, h3⟩, h2⟩, ?_⟩
        have hreg := (hm.mem ρ sl h3).reg
        cases hq : sl.reg with
        | row e t l S =>
          rw [hq] at hreg
          obtain ⟨_, xs, ho, _⟩ := hreg
          exact ownsR_lt ho h2
        | cell T es =>
          rw [hq] at hreg
          obtain ⟨b', cur, hv, hg, _⟩ := hreg
          have hv : β ρ = _ := hv
          rw [hv] at h2; cases h2
          exact (Array.getElem?_eq_some_iff.1 hg).1
    rcases key ρ b h with ⟨rfl, h1⟩ | ⟨h1, h2⟩ <;> rcases key ρ' b h' with ⟨rfl, h3⟩ | ⟨h3, h4⟩
    · rfl
    · omega
    · omega
    · exact hm.dist ρ ρ' b h1 h3
  · by_cases hne : ρ = σ.next
    · subst hne; exact Nat.lt_succ_self _
    · exact Nat.lt_succ_of_lt (hm.next ρ sl (hlk ρ sl hne h))

/-- A region lies in a block that is there. -/
theorem at_lt (hm : InvM G (σ.mo β w)) {ρ b : Nat} (h : (σ.mo β w).at ρ b) : b < w.heap.size := by
  obtain ⟨⟨sl, h3⟩, h2⟩ := h
  have hreg := (hm.mem ρ sl h3).reg
  have h2 : blk (β ρ) = some b := h2
  cases hq : sl.reg with
  | row e t l S =>
    rw [hq] at hreg
    obtain ⟨_, xs, ho, _⟩ := hreg
    exact ownsR_lt ho h2
  | cell T es =>
    rw [hq] at hreg
    obtain ⟨b', cur, hv, hg, _⟩ := hreg
    have hv : β ρ = _ := hv
    rw [hv] at h2; cases h2
    exact (Array.getElem?_eq_some_iff.1 hg).1

/-- A region that is written. -/
theorem set_inv {ρ : Nat} {sl : Slot} {reg : Reg} (hm : InvM G (σ.mo β w)) (hl : lk σ.mem ρ = some sl) (hk : likeR sl.reg reg)
    (hc : ∀ b, b < w.heap.size → blk (β ρ) ≠ some b → w'.heap[b]? = w.heap[b]?) (hs : Same w w')
    (hr : Step (σ.mo β w) ((σ.setReg ρ sl reg).mo β w') → RepR G ((σ.setReg ρ sl reg).mo β w') ρ reg) :
    Step (σ.mo β w) ((σ.setReg ρ sl reg).mo β w') ∧ InvM G ((σ.setReg ρ sl reg).mo β w') := by
  have hlk : ∀ n, lk (σ.setReg ρ sl reg).mem n = if ρ = n then some { sl with ver := sl.ver + 1, reg := reg } else lk σ.mem n := fun n => by
    simp only [St.setReg]
    rw [lk_cons, lk_rm]
    by_cases h : ρ = n <;> simp [h]
  have hst : Step (σ.mo β w) ((σ.setReg ρ sl reg).mo β w') := {
    next := Nat.le_refl _
    size := hs.size
    old := fun n sl' h1 h2 => by
      replace h2 : lk (σ.setReg ρ sl reg).mem n = some sl' := h2
      rw [hlk] at h2
      split at h2
      · rename_i h; subst h; cases h2
        exact ⟨sl, hl, rfl, Nat.le_succ _, hk⟩
      · exact ⟨sl', h2, rfl, Nat.le_refl _, likeR_refl _⟩
    new := fun n b h1 h2 => by
      obtain ⟨⟨sl', h3⟩, _⟩ := h2
      replace h3 : lk (σ.setReg ρ sl reg).mem n = some sl' := h3
      rw [hlk] at h3
      replace h1 : σ.next ≤ n := h1
      split at h3
      · rename_i h; subst h
        have : ρ < σ.next := hm.next ρ sl hl
        omega
      · have : n < σ.next := hm.next n sl' h3
        omega
    heap := fun b h => by
      by_cases hb : blk (β ρ) = some b
      · refine .inr ⟨ρ, ⟨⟨sl, hl⟩, hb⟩, fun s1 s2 h1 h2 => ?_⟩
        replace h2 : lk (σ.setReg ρ sl reg).mem ρ = some s2 := h2
        rw [hlk, if_pos rfl] at h2
        replace h1 : lk σ.mem ρ = some s1 := h1
        rw [hl] at h1
        cases h1; cases h2
        exact Nat.lt_succ_self _
      · exact .inl (hc b h hb) }
  refine ⟨hst, hst.invM hm hs.os hs.tape hs.output (fun n sl' h => ?_) (fun n n' b h h' => ?_) (fun n sl' h => ?_) (fun b hb => hs.unf b fun _ => hm.frame.unf b hb)⟩
  · replace h : lk (σ.setReg ρ sl reg).mem n = some sl' := h
    rw [hlk] at h
    split at h
    · rename_i h1; subst h1; cases h
      exact .inr ⟨hr hst, (hm.mem ρ sl hl).home, (hm.mem ρ sl hl).mine⟩
    · exact .inl h
  · have key : ∀ n, ((σ.setReg ρ sl reg).mo β w').at n b → (σ.mo β w).at n b := by
      intro n ⟨⟨sl', h1⟩, h2⟩
      replace h1 : lk (σ.setReg ρ sl reg).mem n = some sl' := h1
      rw [hlk] at h1
      split at h1
      · rename_i h; subst h; exact ⟨⟨sl, hl⟩, h2⟩
      · exact ⟨⟨sl', h1⟩, h2⟩
    exact hm.dist n n' b (key n h) (key n' h')
  · replace h : lk (σ.setReg ρ sl reg).mem n = some sl' := h
    rw [hlk] at h
    split at h
    · rename_i h1; subst h1; exact hm.next ρ sl hl
    · exact hm.next n sl' h

/-- A row that is handed on, longer, under a new name. -/
theorem grow_inv {ρ : Nat} {sl : Slot} {v : Value} {reg : Reg} (hm : InvM G (σ.mo β w)) (hl : lk σ.mem ρ = some sl)
    (hc : ∀ b, b < w.heap.size → blk (β ρ) ≠ some b → w'.heap[b]? = w.heap[b]?) (hs : Same w w') (hb : ∀ b, blk v = some b → w.heap.size ≤ b ∨ blk (β ρ) = some b)
    (σ' : St) (hσ : σ' = { regs := σ.regs, mem := (σ.next, ⟨0, false, sl.mine, reg⟩) :: rm σ.mem ρ, next := σ.next + 1 })
    (hr : Step (σ.mo β w) (σ'.mo (upd β σ.next v) w') → RepR G (σ'.mo (upd β σ.next v) w') σ.next reg) :
    Step (σ.mo β w) (σ'.mo (upd β σ.next v) w') ∧ InvM G (σ'.mo (upd β σ.next v) w') := by
  have hρ : ρ < σ.next := hm.next ρ sl hl
  have hlk : ∀ n, lk σ'.mem n = if σ.next = n then some ⟨0, false, sl.mine, reg⟩ else if ρ = n then none else lk σ.mem n := fun n => by
    subst hσ
    simp only
    rw [lk_cons, lk_rm]
  have hnx : σ'.next = σ.next + 1 := by subst hσ; rfl
  have hold : ∀ n sl', n ≠ σ.next → lk σ'.mem n = some sl' → n ≠ ρ ∧ lk σ.mem n = some sl' := fun n sl' hn h => by
    rw [hlk, if_neg (fun h => hn h.symm)] at h
    split at h
    · cases h
    · rename_i h1; exact ⟨fun h2 => h1 h2.symm, h⟩
  have hst : Step (σ.mo β w) (σ'.mo (upd β σ.next v) w') := {
    next := by show σ.next ≤ σ'.next; omega
    size := hs.size
    old := fun n sl' h1 h2 => by
      have h1 : n < σ.next := h1
      have hne : n ≠ σ.next := by omega
      exact ⟨sl', (hold n sl' hne h2).2, upd_ne hne, Nat.le_refl _, likeR_refl _⟩
    new := fun n b h1 h2 => by
      obtain ⟨⟨sl', h3⟩, h4⟩ := h2
      by_cases hne : n = σ.next
      · subst hne
        replace h4 : blk (upd β σ.next v σ.next) = some b := h4
        rw [upd_eq] at h4
        rcases hb b h4 with h5 | h5
        · exact .inl h5
        · refine .inr ⟨ρ, hρ, ⟨⟨sl, hl⟩, h5⟩, ?_⟩
          show lk σ'.mem ρ = none
          rw [hlk, if_neg (by omega), if_pos rfl]
      · have : n < σ.next := hm.next n sl' (hold n sl' hne h3).2
        replace h1 : σ.next ≤ n := h1
        omega
    heap := fun b h => by
      by_cases hbb : blk (β ρ) = some b
      · refine .inr ⟨ρ, ⟨⟨sl, hl⟩, hbb⟩, fun s1 s2 h1 h2 => ?_⟩
        replace h2 : lk σ'.mem ρ = some s2 := h2
        rw [hlk, if_neg (by omega), if_pos rfl] at h2
        cases h2
      · exact .inl (hc b h hbb) }
  have hmine := (hm.mem ρ sl hl)
  refine ⟨hst, hst.invM hm hs.os hs.tape hs.output (fun n sl' h => ?_) (fun n n' b h h' => ?_) (fun n sl' h => ?_) (fun b hb => hs.unf b fun _ => hm.frame.unf b hb)⟩
  · by_cases hne : n = σ.next
    · subst hne
      refine .inr ?_
      replace h : lk σ'.mem σ.next = some sl' := h
      rw [hlk, if_pos rfl] at h
      cases h
      refine ⟨hr hst, fun b h => ?_, fun hmn b h => ?_⟩
      · replace h : blk (upd β σ.next v σ.next) = some b := h
        rw [upd_eq] at h
        rcases hb b h with h5 | h5
        · exact .inl (Nat.le_trans hm.frame.size h5)
        · exact hmine.home b h5
      · replace h : blk (upd β σ.next v σ.next) = some b := h
        rw [upd_eq] at h
        rcases hb b h with h5 | h5
        · exact Nat.le_trans hm.frame.size h5
        · exact hmine.mine hmn b h5
    · exact .inl (hold n sl' hne h).2
  · have key : ∀ n b, (σ'.mo (upd β σ.next v) w').at n b → (n = σ.next ∧ (w.heap.size ≤ b ∨ blk (β ρ) = some b)) ∨ (n ≠ ρ ∧ (σ.mo β w).at n b ∧ b < w.heap.size) := by
      intro n b ⟨⟨sl', h1⟩, h2⟩
      by_cases hne : n = σ.next
      · subst hne
        replace h2 : blk (upd β σ.next v σ.next) = some b := h2
        rw [upd_eq] at h2
        exact .inl ⟨rfl, hb b h2⟩
      · obtain ⟨h3, h4⟩ := hold n sl' hne h1
        replace h2 : blk (upd β σ.next v n) = some b := h2
        rw [upd_ne hne] at h2
        have hat : (σ.mo β w).at n b := ⟨⟨sl', h4⟩, h2⟩
        exact .inr ⟨h3, hat, at_lt hm hat⟩
    have contra : ∀ n, (w.heap.size ≤ b ∨ blk (β ρ) = some b) → n ≠ ρ → (σ.mo β w).at n b → b < w.heap.size → False := fun n h1 h2 h3 h4 => by
      rcases h1 with h1 | h1
      · omega
      · exact h2 (hm.dist n ρ b h3 ⟨⟨sl, hl⟩, h1⟩)
    rcases key n b h with ⟨rfl, h1⟩ | ⟨h1, h2, h3⟩ <;> rcases key n' b h' with ⟨rfl, h4⟩ | ⟨h4, h5, h6⟩
    · rfl
    · exact (contra n' h1 h4 h5 h6).elim
    · exact (contra n h4 h1 h2 h3).elim
    · exact hm.dist n n' b h2 h5
  · show n < σ'.next
    by_cases hne : n = σ.next
    · omega
    · have : n < σ.next := hm.next n sl' (hold n sl' hne h).2
      omega

end
end Go.Proofs.Ytpegolnoadpjhaa.R
