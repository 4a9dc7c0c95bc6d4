/- What the program's PlanText does: the text of a plan, line by line. -/
import Derived.Test.YtkkefapclohicaaDoorR20
import Derived.Test.YtkkefapclohicaaDoorGP
import Derived.Test.YtkkefapclohicaaDoorLXB
import Derived.WalkKit
import Derived.OwnWalk
import Derived.Tactics
import Derived.BigCall
import Derived.RegionTactic
import Derived.ChangeAlike
import Derived.Deep.LoopGhost
import Derived.Lib.Builder
set_option linter.unusedVariables false
set_option linter.unusedSimpArgs false
namespace Go.Proofs.YtkkefapclohicaaDoor.R
open Go.RowKit Go.Lib Go.Sort
/-- Kept out of sight. -/
structure Kp (p : Prop) : Prop where
  out : p
theorem isB_below {B b : Nat} {bs : List Value} {w w' : World} (h : Lib.IsBuilder 60 5 B b bs w) (k : Below w.heap.size w w') : Lib.IsBuilder 60 5 B b bs w' := by
  have one : ∀ p, Lib.BuilderAt 60 5 B b p bs w → Lib.BuilderAt 60 5 B b p bs w' := fun p hp => by
    have hlt := hp.lt
    obtain ⟨hB, v, hb, ⟨hl, ho⟩, hne⟩ := hp
    refine ⟨hB, v, (k.block b hlt).trans hb, ⟨hl, ?_⟩, hne⟩
    rcases ho with ho | ⟨g, c, cur, rfl, hBg, hg, hr⟩
    · exact .inl ho
    · have hgl : g < w.heap.size := by
        rcases Nat.lt_or_ge g w.heap.size with h' | h'
        · exact h'
        · rw [Array.getElem?_eq_none h'] at hg; cases hg
      exact .inr ⟨g, c, cur, rfl, hBg, (k.block g hgl).trans hg, hr⟩
  rcases h with h | h
  · exact .inl (one _ h)
  · exact .inr (one _ h)
/-- Whole numbers, cell by cell. -/
def IntsAt (w : World) (B : Nat) (A : Option Addr) (x : List Int) : Prop := x ≠ [] → ∃ b o, A = some ⟨b, o, none⟩ ∧ b < B ∧ ∀ (j : Nat) z, x[j]? = some z → w.cell? ⟨b, o + j, none⟩ = some (.int .i64 z)
/-- The jobs' due days, cell by cell. -/
def DuesAt (w : World) (B : Nat) (A : Option Addr) (x : List (Int × Int × Int)) : Prop := x ≠ [] → ∃ b o, A = some ⟨b, o, none⟩ ∧ b < B ∧ ∀ (j : Nat) z, x[j]? = some z → w.cell? ⟨b, o + j * 3 + 1, none⟩ = some (.int .i64 z.2.1)
theorem IntsAt.to {w w' : World} {B C : Nat} {A : Option Addr} {x : List Int} (h : IntsAt w B A x) (k : Below B w w') (hC : B ≤ C) : IntsAt w' C A x := fun hx => by
  obtain ⟨b, o, e, hb, hc⟩ := h hx
  exact ⟨b, o, e, Nat.lt_of_lt_of_le hb hC, fun j z hz => by rw [k.cell (p := ⟨b, o + j, none⟩) hb]; exact hc j z hz⟩
theorem DuesAt.to {w w' : World} {B C : Nat} {A : Option Addr} {x : List (Int × Int × Int)} (h : DuesAt w B A x) (k : Below B w w') (hC : B ≤ C) : DuesAt w' C A x := fun hx => by
  obtain ⟨b, o, e, hb, hc⟩ := h hx
  exact ⟨b, o, e, Nat.lt_of_lt_of_le hb hC, fun j z hz => by rw [k.cell (p := ⟨b, o + j * 3 + 1, none⟩) hb]; exact hc j z hz⟩
/-- A job's line. -/
noncomputable def lineP (k d due : Int) (q s : ByteArray) : ByteArray := (cond (ilt due d) ((s ++ q) ++ ByteArray.mk #[32, 108, 97, 116, 101]) (s ++ q)) ++ ByteArray.mk #[10]
/-- The lines, one job behind the other. -/
noncomputable def planL (l : List (Int × Int × Int)) (days : List Int) : List Int → ByteArray → Option ByteArray
  | [], s => some s
  | k :: r, s => cond (inB k days.length && inB k l.length)
      (Option.bind (f44 [k, days.getD k.toNat 0]) fun q =>
        cond (decide ((lineP k (days.getD k.toNat 0) (l.getD k.toNat (0, 0, 0)).2.1 q.1.1 s).size ≤ 1073741824)) (planL l days r (lineP k (days.getD k.toNat 0) (l.getD k.toNat (0, 0, 0)).2.1 q.1.1 s)) none) none
theorem below_weak {B C : Nat} {w w' : World} (h : Below C w w') (hB : B ≤ C) : Below B w w' := ⟨h.os, h.tape, h.output, h.size, fun k hk => h.block k (Nat.lt_of_lt_of_le hk hB)⟩
theorem below_drew (B : Nat) (w : World) : Below B w w.drew := ⟨rfl, rfl, rfl, Nat.le_refl _, fun _ _ => rfl⟩
theorem str_app (a b : ByteArray) : Lib.strCells (a ++ b) = Lib.strCells a ++ Lib.strCells b := by
  unfold Lib.strCells
  rw [ByteArray.data_append, Array.toList_append, List.map_append]
theorem lineP_late {k d due : Int} {q s : ByteArray} (h : due < d) : lineP k d due q s = ((s ++ q) ++ ByteArray.mk #[32, 108, 97, 116, 101]) ++ ByteArray.mk #[10] := by
  unfold lineP
  rw [ilt_t h, cond_true]
theorem lineP_on {k d due : Int} {q s : ByteArray} (h : ¬ due < d) : lineP k d due q s = (s ++ q) ++ ByteArray.mk #[10] := by
  unfold lineP
  rw [ilt_f h, cond_false]
theorem lineP_ge (k d due : Int) (q s : ByteArray) : (s ++ q).size ≤ (lineP k d due q s).size := by
  by_cases h : due < d
  · rw [lineP_late h]; simp only [ByteArray.size_append]; omega
  · rw [lineP_on h]; simp only [ByteArray.size_append]; omega
set_option maxHeartbeats 8000000 in
set_option maxRecDepth 100000 in
theorem walk_plan (A1 A2 : Option Addr) (c1 c2 : Nat) (l : List (Int × Int × Int)) (order : List Int) (w : World) (q : Bool) (days : List Int) (fin : ByteArray) (hol : order.length ≤ 1073741824) (h1l : l.length ≤ 1073741824) (h1d : days.length ≤ 1073741824)
    (K1 : Calls Tryd.prog 41 #[.slice A1 l.length c1, .slice A2 order.length c2] w fun e w' => e = .returned (.bool q) ∧ Below w.heap.size w w')
    (K2 : q = true → ∀ w1, Below w.heap.size w w1 → Calls Tryd.prog 42 #[.slice A1 l.length c1, .slice A2 order.length c2] w1 fun e w' => ∃ A3 c3, e = .returned (.slice A3 days.length c3) ∧ Below w1.heap.size w1 w' ∧ IntsAt w' w'.heap.size A3 days)
    (K3 : ∀ w2 g k d s u, Below w.heap.size w w2 → w2.cell? ⟨g, 0, none⟩ = some (.int .i64 k) → w2.cell? ⟨g, 1, none⟩ = some (.int .i64 d) → f44 [k, d] = some ((s, ()), u) →
      Calls Tryd.prog 44 #[.slice (some ⟨g, 0, none⟩) 2 2] w2 fun e w' => e = .returned (.string s) ∧ Below w2.heap.size w2 w')
    (hJ : DuesAt w w.heap.size A1 l) (hO : IntsAt w w.heap.size A2 order) (hP : q = true → planL l days order (ByteArray.mk #[]) = some fin) :
    Calls Tryd.prog 12 #[.slice A1 l.length c1, .slice A2 order.length c2] w fun e w' => e = .returned (.tuple #[.string (cond q fin (ByteArray.mk #[])), .bool q]) ∧ Below w.heap.size w w' := by
  have HK2 := Kp.mk K2
  have HK3 := Kp.mk K3
  have HJ := Kp.mk hJ
  have HO := Kp.mk hO
  have HP := Kp.mk hP
  have HL := Kp.mk (And.intro hol (And.intro h1l h1d))
  clear K2 K3 hJ hO hP hol h1l h1d
  go_enter Tryd.func12, Tryd.ntmps12
  go_wp2_with fail
  refine K1.mono ?_
  rintro e w1 ⟨rfl, hb1⟩
  have HB1 := Kp.mk hb1
  clear hb1
  cases q with
  | false =>
    go_wp2
    go_ret2
    exact ⟨rfl, HB1.out⟩
  | true =>
    go_wp2_with fail
    refine (HK2.out (by first | rfl | trivial) w1 HB1.out).mono ?_
    rintro e w2 ⟨A3, c3, rfl, hb2, hD⟩
    have HB2 := Kp.mk (HB1.out.trans (below_weak hb2 HB1.out.size))
    have HD := Kp.mk hD
    clear hb2 hD
    go_wp2
    go_loopg [19] order.length (fun kq v19 wr => ∃ (i : Nat) (s : ByteArray), v19 = .int .i64 i ∧ Kp (i + kq = order.length) ∧ Kp (planL l days (order.drop i) s = some fin) ∧ Kp (s.size ≤ 1073741824) ∧ Kp (Lib.IsBuilder 60 5 w2.heap.size w2.heap.size (Lib.strCells s) wr) ∧ Kp (Below w2.heap.size w2 wr))
    case atStart =>
      refine ⟨0, ByteArray.mk #[], rfl, ⟨by omega⟩, ⟨by simpa using HP.out (by first | rfl | trivial)⟩, ⟨by decide⟩, ⟨.inl ⟨Nat.le_refl _, .slice none 0 0, heap_alloc_new w2 _, World.ownsRow_nil _ _ _ _, by simp [Value.ownBlock]⟩⟩, ⟨(Below.refl _ _).alloc (Nat.le_refl _) _⟩⟩
    case round =>
      obtain ⟨i, s, rfl, HI, HPl, HS, HB, HW⟩ := hrel
      have HBW := Kp.mk (HB2.out.trans (below_weak HW.out HB2.out.size))
      cases gk with
      | zero =>
        have e : fin = s := by
          have h := HPl.out
          rw [List.drop_eq_nil_of_le (by have := HI.out; omega)] at h
          exact (Option.some.inj h).symm
        have ei : i = order.length := by have := HI.out; omega
        subst ei
        go_wp2_with fail
        refine (Tryd.Builder_String_any w2.heap.size w2.heap.size s.data.toList wr HB.out HW.out.size).mono ?_
        rintro e w5 ⟨rfl, hb5⟩
        have HB5 := Kp.mk (HBW.out.trans (below_weak hb5 HB2.out.size))
        clear hb5
        go_wp2
        go_ret2
        rw [e]
        exact ⟨rfl, HB5.out⟩
      | succ k1 =>
        have hi : i < order.length := by have := HI.out; omega
        have c0 : decide ((i : Int) < (order.length : Int)) = true := by rw [decide_eq_true]; omega
        obtain ⟨k, hk⟩ : ∃ k, order[i]? = some k := ⟨order[i], List.getElem?_eq_getElem hi⟩
        have hp := HPl.out
        rw [List.drop_eq_getElem_cons hi, show order[i] = k from by rw [List.getElem?_eq_getElem hi] at hk; exact Option.some.inj hk] at hp
        unfold planL at hp
        obtain ⟨hp1, hp2⟩ := cond_some hp
        obtain ⟨q, hq, hp3⟩ := Option.bind_eq_some_iff.mp hp2
        obtain ⟨hp4, hp5⟩ := cond_some hp3
        have hp4 := of_decide_eq_true hp4
        have hin := Bool.and_eq_true_iff.1 hp1
        obtain ⟨hk0, hkd⟩ := of_decide_eq_true hin.1
        obtain ⟨_, hkl⟩ := of_decide_eq_true hin.2
        obtain ⟨m, rfl⟩ : ∃ m : Nat, k = (m : Int) := ⟨k.toNat, by omega⟩
        have hmd : m < days.length := by omega
        have hml : m < l.length := by omega
        obtain ⟨d, hd⟩ : ∃ d, days[m]? = some d := ⟨days[m], List.getElem?_eq_getElem hmd⟩
        obtain ⟨j, hj⟩ : ∃ j, l[m]? = some j := ⟨l[m], List.getElem?_eq_getElem hml⟩
        have ed : days.getD (m : Int).toNat 0 = d := by simp [List.getD, hd]
        have ej : l.getD (m : Int).toNat (0, 0, 0) = j := by simp [List.getD, hj]
        rw [ed] at hq hp4 hp5
        rw [ej] at hp4 hp5
        obtain ⟨⟨qs, _⟩, qu⟩ := q
        obtain ⟨bo, oo, rfl, hbo, hco⟩ := (HO.out.to HBW.out (Nat.le_refl _)) (by rintro rfl; simp at hi)
        obtain ⟨bd, od, rfl, hbd, hcd⟩ := (HD.out.to HW.out (Nat.le_refl _)) (by rintro rfl; simp at hmd)
        obtain ⟨bj, oj, rfl, hbj, hcj⟩ := (HJ.out.to HBW.out (Nat.le_refl _)) (by rintro rfl; simp at hml)
        have co := hco i _ hk
        have cd := hcd m _ hd
        have cj := hcj m _ hj
        have HQ := Kp.mk (And.intro hq (And.intro hp4 hp5))
        have HM := Kp.mk (And.intro hmd hml)
        clear hco hcd hcj hk hp hp1 hp2 hp3 hp4 hp5 hq hin ed ej hd hj hk0 hkd hkl
        have p0 : (0 : Int) ≤ (i : Int) := by omega
        have p1 : (i : Int) < (order.length : Int) := by omega
        have p2 : (0 : Int) ≤ (m : Int) := by omega
        have p3 : (m : Int) < (days.length : Int) := by omega
        have p4 : (m : Int) < (l.length : Int) := by omega
        replace p0 := eq_true p0
        replace p1 := eq_true p1
        replace p2 := eq_true p2
        replace p3 := eq_true p3
        replace p4 := eq_true p4
        go_wp2_with fail
        have hbA : Below wr.heap.size wr (wr.alloc (Obj.cells #[Value.int IntKind.i64 (m : Int), Value.int IntKind.i64 d] 3)) := (Below.refl _ _).alloc (Nat.le_refl _) _
        refine (HK3.out _ wr.heap.size m d qs _ (HBW.out.trans (below_weak hbA HBW.out.size)) (by rw [Lib.cell_of_heap (heap_alloc_new wr _)]; rfl) (by rw [Lib.cell_of_heap (heap_alloc_new wr _)]; rfl) HQ.out.1).mono ?_
        rintro e w3 ⟨rfl, hb3⟩
        have hb3 : Below wr.heap.size wr w3 := hbA.trans (below_weak hb3 (by simp))
        have HB3 := Kp.mk (isB_below HB.out hb3)
        have HW3 := Kp.mk (HW.out.trans (below_weak hb3 HW.out.size))
        clear hb3 hbA HB
        have hz : (Lib.strCells s).length + qs.size ≤ 140737488355328 := by
          have h := HQ.out.2.1
          have hs := HS.out
          have e1 : (s ++ qs).size = s.size + qs.size := ByteArray.size_append
          rw [Lib.strCells_length]
          unfold lineP at h
          rw [ByteArray.size_append] at h
          revert h
          cases ilt j.2.1 d with
          | true => intro h; rw [cond_true, ByteArray.size_append] at h; omega
          | false => intro h; rw [cond_false] at h; omega
        have HZ := Kp.mk hz
        clear hz
        go_wp2_with fail
        refine (Tryd.Builder_WriteString w2.heap.size w2.heap.size _ qs w3 HB3.out HZ.out HW3.out.size).mono ?_
        rintro e w4 ⟨rfl, h4, hb4⟩
        have HB4 := Kp.mk h4
        have HW4 := Kp.mk (HW3.out.trans hb4)
        clear h4 hb4 HB3
        have cd4 : w4.cell? ⟨bd, od + m, none⟩ = some (.int .i64 d) := (HW4.out.cell (p := ⟨bd, od + m, none⟩) hbd).trans ((HW.out.cell (p := ⟨bd, od + m, none⟩) hbd).symm.trans cd)
        have hbj2 : bj < w2.heap.size := Nat.lt_of_lt_of_le hbj HB2.out.size
        have cj4 : w4.cell? ⟨bj, oj + m * 3 + 1, none⟩ = some (.int .i64 j.2.1) := (HW4.out.cell (p := ⟨bj, oj + m * 3 + 1, none⟩) hbj2).trans ((HW.out.cell (p := ⟨bj, oj + m * 3 + 1, none⟩) hbj2).symm.trans cj)
        clear co cd cj
        go_wp2
        go_region
        have hn : (Lib.strCells s ++ Lib.strCells qs).length ≤ 1073741824 := by
          rw [← str_app, Lib.strCells_length]
          exact Nat.le_trans (lineP_ge _ _ _ _ _) HQ.out.2.1
        have HN := Kp.mk (And.intro hn (And.intro (show (Lib.strCells s ++ Lib.strCells qs).length + (ByteArray.mk #[32, 108, 97, 116, 101]).size ≤ 140737488355328 by have e : (ByteArray.mk #[32, 108, 97, 116, 101]).size = 5 := rfl; omega)
          (show ∀ bs : List Value, bs.length ≤ 1073741829 → bs.length + (ByteArray.mk #[10]).size ≤ 140737488355328 from fun bs hb => by have e : (ByteArray.mk #[10]).size = 1 := rfl; omega)))
        clear hn
        have HB4 := Kp.mk (isB_below (.inr HB4.out) (below_drew _ w4))
        have HW4 := Kp.mk (HW4.out.trans (below_drew _ w4))
        by_cases hlt : j.2.1 < d
        · have c1 : decide (j.2.1 < d) = true := decide_eq_true hlt
          go_wp2_with fail
          refine (Tryd.Builder_WriteString w2.heap.size w2.heap.size _ (ByteArray.mk #[32, 108, 97, 116, 101]) w4.drew HB4.out (HN.out.2.1) HW4.out.size).mono ?_
          rintro e w5 ⟨rfl, h5, hb5⟩
          have HB5 := Kp.mk h5
          have HW5 := Kp.mk (HW4.out.trans hb5)
          clear h5 hb5
          go_wp2_with fail
          refine (Tryd.Builder_WriteString w2.heap.size w2.heap.size _ (ByteArray.mk #[10]) w5 (.inr HB5.out) (HN.out.2.2 _ (by rw [List.length_append]; have := HN.out.1; have e : (Lib.strCells (ByteArray.mk #[32, 108, 97, 116, 101])).length = 5 := rfl; omega)) HW5.out.size).mono ?_
          rintro e w6 ⟨rfl, h6, hb6⟩
          have HB6 := Kp.mk h6
          have HW6 := Kp.mk (HW5.out.trans hb6)
          clear h6 hb6
          go_wp2
          go_roundg k1
          case measure => omega
          case rel =>
            refine ⟨i + 1, _, ?_, ⟨by have := HI.out; omega⟩, ⟨HQ.out.2.2⟩, ⟨HQ.out.2.1⟩, ⟨?_⟩, HW6⟩
            · congr 1
              have := HI.out; have := HL.out.1
              unfold wrap64
              omega
            · have h := HB6.out
              rw [lineP_late (show j.2.1 < d by omega), str_app, str_app, str_app]
              exact .inr h
        · have c1 : decide (j.2.1 < d) = false := decide_eq_false hlt
          go_wp2_with fail
          refine (Tryd.Builder_WriteString w2.heap.size w2.heap.size _ (ByteArray.mk #[10]) w4.drew HB4.out (HN.out.2.2 _ (by have := HN.out.1; omega)) HW4.out.size).mono ?_
          rintro e w6 ⟨rfl, h6, hb6⟩
          have HB6 := Kp.mk h6
          have HW6 := Kp.mk (HW4.out.trans hb6)
          clear h6 hb6
          go_wp2
          go_roundg k1
          case measure => omega
          case rel =>
            refine ⟨i + 1, _, ?_, ⟨by have := HI.out; omega⟩, ⟨HQ.out.2.2⟩, ⟨HQ.out.2.1⟩, ⟨?_⟩, HW6⟩
            · congr 1
              have := HI.out; have := HL.out.1
              unfold wrap64
              omega
            · have h := HB6.out
              rw [lineP_on (show ¬ j.2.1 < d by omega), str_app, str_app]
              exact .inr h
/-! the contract -/
theorem ints_at {ok : Nat → Prop} {w : World} {x : List Int} {v : Value} (h : Rep ok w (.slice 3 (.int .i64)) x [v]) : ∃ A c, v = .slice A x.length c ∧ IntsAt w w.heap.size A x := by
  obtain ⟨A, c, e, hc, h⟩ := h
  refine ⟨A, c, (List.cons.inj e).1, fun hne => ?_⟩
  have hp : 0 < x.length := List.length_pos_iff.2 hne
  obtain ⟨ad, rfl, hok, hall⟩ := h hne
  have cells : ∀ (i : Nat) s, x[i]? = some s → w.cell? (ad.add i) = some (.int .i64 s) := fun i s hi => by
    obtain ⟨hil, hi⟩ := List.getElem?_eq_some_iff.1 hi
    obtain ⟨es, h1, h2⟩ := hall i hil
    replace h1 : es = [.int .i64 (x.get ⟨i, hil⟩)] := h1
    subst h1
    have h3 := h2 0 _ rfl
    rw [show i * (Ty.int .i64).n + 0 = i from by simp [Ty.n]] at h3
    rw [h3]
    simp [← hi]
  obtain ⟨b, o, sp⟩ := ad
  have h0 := cells 0 _ (List.getElem?_eq_getElem hp)
  cases sp with
  | none =>
    have e : ∀ j, (⟨b, o, none⟩ : Addr).add j = ⟨b, o + j, none⟩ := fun j => by
      unfold Addr.add
      by_cases h0 : j = 0
      · rw [if_pos h0, h0]; rfl
      · rw [if_neg h0]
    refine ⟨b, o, rfl, ?_, fun j s hj => by rw [← e]; exact cells j s hj⟩
    rw [e] at h0
    exact World.block_lt_of_cell? w _ h0
  | some s =>
    exfalso
    rw [show (⟨b, o, some s⟩ : Addr).add 0 = ⟨b, o, some s⟩ from rfl] at h0
    unfold World.cell? at h0
    split at h0
    · simp at h0
    · cases h0
theorem dues_at {ok : Nat → Prop} {w : World} {x : List (Int × Int × Int)} {v : Value} (h : Rep ok w (.slice 43 (.pair (.int .i64) (.pair (.int .i64) (.int .i64)))) x [v]) : ∃ A c, v = .slice A x.length c ∧ DuesAt w w.heap.size A x := by
  obtain ⟨A, c, e, hc, h⟩ := h
  refine ⟨A, c, (List.cons.inj e).1, fun hne => ?_⟩
  have hp : 0 < x.length := List.length_pos_iff.2 hne
  obtain ⟨ad, rfl, hok, hall⟩ := h hne
  have cells : ∀ (i : Nat) s, x[i]? = some s → w.cell? (ad.add (i * 3)) = some (.int .i64 s.1) ∧ w.cell? (ad.add (i * 3 + 1)) = some (.int .i64 s.2.1) := fun i s hi => by
    obtain ⟨hil, hi⟩ := List.getElem?_eq_some_iff.1 hi
    obtain ⟨es, ⟨c1, c2, rfl, h1, c3, c4, rfl, h3, h4⟩, h2⟩ := hall i hil
    have hs : x.get ⟨i, hil⟩ = s := by simp [← hi]
    replace h1 : c1 = [.int .i64 (x.get ⟨i, hil⟩).1] := h1
    replace h3 : c3 = [.int .i64 (x.get ⟨i, hil⟩).2.1] := h3
    rw [hs] at h1 h3
    subst h1 h3
    have h5 := h2 1 _ rfl
    rw [show i * (Ty.pair (.int .i64) (.pair (.int .i64) (.int .i64))).n + 1 = i * 3 + 1 from by simp [Ty.n]] at h5
    have h6 := h2 0 _ rfl
    rw [show i * (Ty.pair (.int .i64) (.pair (.int .i64) (.int .i64))).n + 0 = i * 3 from by simp [Ty.n]] at h6
    exact ⟨h6, h5⟩
  obtain ⟨b, o, sp⟩ := ad
  have h0 := (cells 0 _ (List.getElem?_eq_getElem hp)).1
  cases sp with
  | none =>
    have e : ∀ j, (⟨b, o, none⟩ : Addr).add j = ⟨b, o + j, none⟩ := fun j => by
      unfold Addr.add
      by_cases h0 : j = 0
      · rw [if_pos h0, h0]; rfl
      · rw [if_neg h0]
    refine ⟨b, o, rfl, ?_, fun j s hj => by rw [Nat.add_assoc, ← e]; exact (cells j s hj).2⟩
    rw [e] at h0
    exact World.block_lt_of_cell? w _ h0
  | some s =>
    exfalso
    rw [show (⟨b, o, some s⟩ : Addr).add (0 * 3) = ⟨b, o, some s⟩ from rfl] at h0
    unfold World.cell? at h0
    split at h0
    · simp at h0
    · cases h0
theorem ints_row {w : World} {v : Value} {x : List Int} {xs : List Value} {ok : Nat → Prop} (h : OwnsR w 3 1 v x.length xs) (hr : RepL ok w (.int .i64) x xs) : ∃ A c, v = .slice A x.length c ∧ IntsAt w w.heap.size A x := by
  have hx : ∀ {l : List Int} {ys : List Value}, RepL ok w (.int .i64) l ys → ys = l.map (Value.int .i64) := by
    intro l
    induction l with
    | nil => intro ys h; exact h
    | cons a l ih =>
      rintro ys ⟨es, zs, rfl, h1, h2⟩
      have h1 : es = [.int .i64 a] := h1
      rw [h1, ih h2]; rfl
  have hx := hx hr
  rw [ownsR_row (by rfl)] at h
  obtain ⟨h1, h2⟩ := h
  rcases h2 with ⟨rfl, h0⟩ | ⟨g, c, cur, rfl, _, hg, hnc, hc, hcs, ht⟩
  · exact ⟨none, 0, by rw [h0], fun hne => absurd (List.eq_nil_of_length_eq_zero h0) hne⟩
  · refine ⟨some ⟨g, 0, none⟩, c, rfl, fun hne => ⟨g, 0, rfl, ?_, fun j z hj => ?_⟩⟩
    · rcases Nat.lt_or_ge g w.heap.size with h' | h'
      · exact h'
      · rw [Array.getElem?_eq_none h'] at hg; cases hg
    · have hl := (List.getElem?_eq_some_iff.1 hj).1
      rw [Lib.cell_of_heap hg, Nat.zero_add]
      have e : (cur.toList.take (x.length * 1))[j]? = some (Value.int .i64 z) := by rw [ht, hx, List.getElem?_map, hj]; rfl
      rw [List.getElem?_take, if_pos (by omega), Array.getElem?_toList] at e
      exact e
theorem bel_fr {w w' : World} (h : Fr w w' (· ∈ ([] : List Nat))) : Below w.heap.size w w' := ⟨h.os, h.tape, h.output, h.size, fun k hk => h.block k hk (by simp)⟩
noncomputable def f12 (l : List (Int × Int × Int)) (order : List Int) : Option ((ByteArray × Bool × Unit) × Unit) :=
  cond (decide (l.length ≤ 1073741824) && decide (order.length ≤ 1073741824))
    (Option.bind (f41 l order) fun q => cond q.1.1 (Option.bind (f42 l order) fun r => cond (decide (r.1.1.length ≤ 1073741824)) (Option.bind (planL l r.1.1 order (ByteArray.mk #[])) fun s => some ((s, true, ()), ())) none) (some ((ByteArray.mk #[], false, ()), ()))) none
noncomputable def f12_F : FSem := ⟨12, .v false (.slice 43 (.pair (.int .i64) (.pair (.int .i64) (.int .i64)))) [0] (.v false (.slice 3 (.int .i64)) [1] .nil), .v false .str [] (.v false .bool [] .nil), fun d => f12 d.1 d.2.1⟩
theorem f12_call : Callable Tryd.prog 12 := ⟨Tryd.f12, bodyOf Tryd.f12, by kernel_rfl, by kernel_rfl, by kernel_rfl⟩
theorem f12_ok : Contract Tryd.prog f12_F := by
  intro w args d r X bs hbs hlt hX harg hr hdoor haw
  obtain ⟨l, order, u⟩ := d
  have harg0 := harg
  obtain ⟨v, vs', cs, hv, hpk, hrep, v2, vs2, cs2, rfl, hpk2, hrep2, hv2, rfl⟩ := harg
  subst hv2
  have h1 : cs = [v] := hpk
  subst h1
  have h2 : cs2 = [v2] := hpk2
  subst h2
  have ha : args = #[v, v2] := by
    have := congrArg List.toArray hv
    simpa using this
  have hm : ∀ w' ok, MutR ok w' f12_F.ins r.2 args.toList := fun w' ok => by
    rw [ha]
    exact ⟨v, [v2], rfl, v2, [], rfl, rfl⟩
  have hr : f12 l order = some r := hr
  unfold f12 at hr
  obtain ⟨hn, hr⟩ := cond_some hr
  have hn := Bool.and_eq_true_iff.1 hn
  have hn1 := of_decide_eq_true hn.1
  have hn2 := of_decide_eq_true hn.2
  obtain ⟨q, hq, hr⟩ := Option.bind_eq_some_iff.mp hr
  obtain ⟨A1, c1, e1, hJ⟩ := dues_at hrep
  obtain ⟨A2, c2, e2, hO⟩ := ints_at hrep2
  have K1 : Calls Tryd.prog 41 args w fun e w' => e = .returned (.bool q.1.1) ∧ Below w.heap.size w w' := by
    refine (f41_k.1 w args (l, order, ()) q X [] List.nodup_nil (fun b hb => by cases hb) (fun j b h => ⟨(hX j b h).1, by simp⟩) harg0 hq hdoor (fun b hb => by cases hb)).mono ?_
    rintro e w' ⟨vs, bo, rfl, _, _, ⟨y, ys, ds, rfl, hp, hb, rfl, rfl⟩, _, hfr⟩
    have hp : ds = [y] := hp
    have hb : ds = [.bool q.1.1] := hb
    obtain rfl : y = .bool q.1.1 := (List.cons.inj (hp.symm.trans hb)).1
    exact ⟨rfl, bel_fr hfr⟩
  have K2 : ∀ rd, f42 l order = some rd → ∀ w1, Below w.heap.size w w1 → Calls Tryd.prog 42 args w1 fun e w' => ∃ A3 c3, e = .returned (.slice A3 rd.1.1.length c3) ∧ Below w1.heap.size w1 w' ∧ IntsAt w' w'.heap.size A3 rd.1.1 := by
    intro rd hrd w1 hw1
    refine (f42_k.1 w1 args (l, order, ()) rd X [] List.nodup_nil (fun b hb => by cases hb) (fun j b h => ⟨Nat.lt_of_lt_of_le (hX j b h).1 hw1.size, by simp⟩)
      (ArgR.to (fun b h => h) (fun m b ⟨j, hj, hb⟩ => ⟨⟨j, hj, hb⟩, hw1.block b (hX j b hb).1⟩) (fun b hb => by cases hb) harg0) hrd (Door.keep w w1 hdoor fun b hb => hw1.block b (Door.lt w b hdoor hb)) (fun b hb => by cases hb)).mono ?_
    rintro e w' ⟨vs, bo, rfl, _, _, ⟨y, ys, xs, bs', rfl, _, hown, hrl, _, rfl, rfl⟩, _, hfr⟩
    obtain ⟨A3, c3, rfl, hI⟩ := ints_row hown hrl
    exact ⟨A3, c3, rfl, bel_fr hfr, hI⟩
  have K3 : ∀ w2 g k d s u, Below w.heap.size w w2 → w2.cell? ⟨g, 0, none⟩ = some (.int .i64 k) → w2.cell? ⟨g, 1, none⟩ = some (.int .i64 d) → f44 [k, d] = some ((s, ()), u) →
      Calls Tryd.prog 44 #[.slice (some ⟨g, 0, none⟩) 2 2] w2 fun e w' => e = .returned (.string s) ∧ Below w2.heap.size w2 w' := by
    intro w2 g k d s u hw2 hk hd hs
    have hg : g < w2.heap.size := World.block_lt_of_cell? w2 _ hk
    have hin : ArgR (fun m b => ∃ j ∈ m, j = 0 ∧ b = g) (fun _ => False) w2 f44_F.ins ([k, d], ()) [.slice (some ⟨g, 0, none⟩) 2 2] [] := by
      refine ⟨_, [], [_], rfl, rfl, ⟨some ⟨g, 0, none⟩, 2, rfl, Nat.le_refl _, fun _ => ⟨⟨g, 0, none⟩, rfl, ⟨0, by simp, rfl, rfl⟩, fun i hi => ?_⟩⟩, rfl, rfl⟩
      match i, hi with
      | 0, _ => exact ⟨[.int .i64 k], rfl, fun j v hj => by
          match j, hj with
          | 0, hj => cases hj; exact hk⟩
      | 1, _ => exact ⟨[.int .i64 d], rfl, fun j v hj => by
          match j, hj with
          | 0, hj => cases hj; exact hd⟩
    refine (f44_k.1 w2 _ ([k, d], ()) ((s, ()), u) (fun j b => j = 0 ∧ b = g) [] List.nodup_nil (fun b hb => by cases hb) (fun j b h => ⟨h.2 ▸ hg, by simp⟩) hin hs
      (Door.keep w w2 hdoor fun b hb => hw2.block b (Door.lt w b hdoor hb)) (fun b hb => by cases hb)).mono ?_
    rintro e w' ⟨vs, bo, rfl, _, _, ⟨y, ys, ds, rfl, hp, hb, rfl, rfl⟩, _, hfr⟩
    have hp : ds = [y] := hp
    have hb : ds = [.string s] := hb
    obtain rfl : y = .string s := (List.cons.inj (hp.symm.trans hb)).1
    exact ⟨rfl, bel_fr hfr⟩
  have fin : ∀ (s : ByteArray) (o : Bool), r = ((s, o, ()), ()) → Calls Tryd.prog 12 args w (fun e w' => e = .returned (.tuple #[.string s, .bool o]) ∧ Below w.heap.size w w') →
      Calls Tryd.prog 12 args w fun e w' => ∃ vs bo, e = .returned (packRes vs) ∧ bo.Nodup ∧ (∀ b ∈ bo, w.heap.size ≤ b ∧ b < w'.heap.size) ∧
        ArgR (okR X w w' (bo ++ [])) (fun b => w.heap.size ≤ b) w' f12_F.outs r.1 vs bo ∧ MutR (okR X w w' (bo ++ [])) w' f12_F.ins r.2 args.toList ∧ Fr w w' (· ∈ ([] : List Nat)) := by
    intro s o hro hc
    refine hc.mono ?_
    rintro e w' ⟨rfl, hb⟩
    refine ⟨[.string s, .bool o], [], rfl, List.nodup_nil, (fun b hb => by cases hb), ?_, hm _ _, fr_below hb⟩
    rw [hro]
    exact ⟨_, [_], [_], rfl, rfl, rfl, _, [], [_], rfl, rfl, rfl, rfl, rfl⟩
  cases hq1 : q.1.1 with
  | false =>
    rw [hq1, cond_false] at hr
    rw [hq1] at K1
    refine fin (ByteArray.mk #[]) false (Option.some.inj hr).symm ?_
    rw [ha, e1, e2] at K1 ⊢
    exact walk_plan A1 A2 c1 c2 l order w false [] (ByteArray.mk #[]) hn2 hn1 (Nat.zero_le _) K1 (fun h => by cases h) K3 hJ hO (fun h => by cases h)
  | true =>
    rw [hq1, cond_true] at hr
    rw [hq1] at K1
    obtain ⟨rd, hrd, hr⟩ := Option.bind_eq_some_iff.mp hr
    obtain ⟨hn3, hr⟩ := cond_some hr
    have hn3 := of_decide_eq_true hn3
    obtain ⟨s, hs, hr⟩ := Option.bind_eq_some_iff.mp hr
    refine fin s true (Option.some.inj hr).symm ?_
    have K2' := K2 rd hrd
    rw [ha, e1, e2] at K1 K2' ⊢
    exact walk_plan A1 A2 c1 c2 l order w true rd.1.1 s hn2 hn1 hn3 K1 (fun _ => K2') K3 hJ hO (fun _ => hs)
theorem f12_k : Ok Tryd.prog f12_F := ⟨f12_ok, f12_call⟩
end Go.Proofs.YtkkefapclohicaaDoor.R
