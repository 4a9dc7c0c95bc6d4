/- What the program's FindTheme gives: the places, as a row of rows of its own. -/
import Derived.Test.YtpegolnoadpjhaaFT4
import Derived.Test.YtpegolnoadpjhaaTH1
import Derived.RegionTactic
import Derived.ChangeAlike
import Derived.Maps.AppendAt
set_option linter.unusedVariables false
set_option linter.unusedSimpArgs false
namespace Go.Proofs.Ytpegolnoadpjhaa.R
open Go.RowKit Go.Lib
/-- Notes, cell by cell. -/
def NotesAt (w : World) (B : Nat) (A : Option Addr) (x : List Note) : Prop := x ≠ [] → ∃ b o, A = some ⟨b, o, none⟩ ∧ b < B ∧ ∀ (j : Nat) z, x[j]? = some z → w.cell? ⟨b, o + j * 3, none⟩ = some (.int .i64 z.1) ∧ w.cell? ⟨b, o + j * 3 + 1, none⟩ = some (.int .i64 z.2.1) ∧ w.cell? ⟨b, o + j * 3 + 2, none⟩ = some (.int .i64 z.2.2)
theorem below_weak {B C : Nat} {w w' : World} (h : Below C w w') (hB : B ≤ C) : Below B w w' := ⟨h.os, h.tape, h.output, h.size, fun k hk => h.block k (Nat.lt_of_lt_of_le hk hB)⟩
theorem below_drew (B : Nat) (w : World) : Below B w w.drew := ⟨rfl, rfl, rfl, Nat.le_refl _, fun _ _ => rfl⟩
theorem below_alloc (w : World) (o : Obj) : Below w.heap.size w (w.alloc o) := (Below.refl _ _).alloc (Nat.le_refl _) _
theorem NotesAt.to {w w' : World} {B : Nat} {A : Option Addr} {x : List Note} (h : NotesAt w B A x) (k : Below B w w') : NotesAt w' B A x := fun hx => by
  obtain ⟨b, o, e, hb, hc⟩ := h hx
  refine ⟨b, o, e, hb, fun j z hz => ?_⟩
  obtain ⟨h1, h2, h3⟩ := hc j z hz
  exact ⟨(k.cell (p := ⟨b, o + j * 3, none⟩) hb).trans h1, (k.cell (p := ⟨b, o + j * 3 + 1, none⟩) hb).trans h2, (k.cell (p := ⟨b, o + j * 3 + 2, none⟩) hb).trans h3⟩
theorem Own2.below {w w' : World} {B : Nat} {v : Value} {L : List (List Int)} {gs : List Nat} (h : Own2 w B v L gs) (k : Below w.heap.size w w') : Own2 w' B v L gs := h.to fun j _ hj => k.block j hj
theorem fdL_cons (l theme : List Note) (t x : Note) (xs : List Note) : fdL l theme t (x :: xs) = cond (thA l theme (x.2.1 - t.2.1) (x.1 - t.1)) ([x.2.1 - t.2.1, x.1 - t.1] :: fdL l theme t xs) (fdL l theme t xs) := rfl
/-- One more place, appended. -/
theorem Own2.app {w w' : World} {B : Nat} {v v' : Value} {L : List (List Int)} {gs : List Nat} {d e : Int} (h : Own2 w B v L gs) (hB : B ≤ w.heap.size)
    (ho : w'.ownsRow B 37 1 v' (L.length + 1) (gs.map encP ++ [encP w.heap.size]))
    (hg : ((w.alloc (Obj.cells #[Value.int IntKind.i64 d, Value.int IntKind.i64 e] 3)).alloc (Obj.cells #[encP w.heap.size] 37)).grownBy w' v.ownBlock)
    (hat : v'.ownBlock = v.ownBlock ∨ v'.ownBlock = some (w.heap.size + 1 + 1)) :
    Own2 w' B v' (L ++ [[d, e]]) (gs ++ [w.heap.size]) ∧ Below B w w' := by
  have hrow : ∀ k, v.ownBlock = some k → B ≤ k ∧ k < w.heap.size := h.outer.lt
  have hbv : ∀ {v : Value} {n : Nat} {xs : List Value} {w : World}, w.ownsRow B 37 1 v n xs → blk v = v.ownBlock := fun h => by
    rcases h.2 with ⟨rfl, _⟩ | ⟨_, _, _, rfl, _⟩ <;> rfl
  have hs : ((w.alloc (Obj.cells #[Value.int IntKind.i64 d, Value.int IntKind.i64 e] 3)).alloc (Obj.cells #[encP w.heap.size] 37)).heap.size = w.heap.size + 2 := by simp
  have hold : ∀ k, k < w.heap.size → ((w.alloc (Obj.cells #[Value.int IntKind.i64 d, Value.int IntKind.i64 e] 3)).alloc (Obj.cells #[encP w.heap.size] 37)).heap[k]? = w.heap[k]? := fun k hk => by
    rw [Go.heap_alloc_old _ _ (by simp; omega), Go.heap_alloc_old w _ hk]
  have hkeep : ∀ k, k < w.heap.size → v.ownBlock ≠ some k → w'.heap[k]? = w.heap[k]? := fun k hk hne => (hg.block k (by rw [hs]; omega) (fun e => hne e.symm)).trans (hold k hk)
  have hnew : w'.heap[w.heap.size]? = some (.cells #[.int .i64 d, .int .i64 e] 3 (0, 0)) := by
    rw [hg.block w.heap.size (by rw [hs]; omega) (fun e => by have := (hrow _ e.symm).2; omega), Go.heap_alloc_old _ _ (by simp)]
    exact heap_alloc_new w _
  have hne : ∀ g, B ≤ g → g < w.heap.size + 1 → v.ownBlock ≠ some g → blk v' ≠ some g := fun g hg1 hg2 hn e => by
    rw [hbv ho] at e
    rcases hat with h1 | h1
    · rw [h1] at e; exact hn e
    · rw [h1] at e
      have := Option.some.inj e
      omega
  refine ⟨⟨by simp [h.len], ?_, fun g hgm => ?_, ?_, fun i g x h1 h2 => ?_⟩, ⟨hg.os, hg.tape, hg.output, by have := hg.size; rw [hs] at this; omega, fun k hk => hkeep k (by omega) (fun e => by have := (hrow k e).1; omega)⟩⟩
  · rw [List.nodup_append]
    refine ⟨h.nd, by simp, fun a ha b hb e => ?_⟩
    have := h.lt a ha
    rw [List.mem_singleton.1 hb] at e
    omega
  · rcases List.mem_append.1 hgm with h1 | h1
    · exact ⟨(h.ge g h1).1, hne g (h.ge g h1).1 (by have := h.lt g h1; omega) (fun e => (h.ge g h1).2 (by rw [hbv h.outer]; exact e))⟩
    · rw [List.mem_singleton.1 h1]
      exact ⟨hB, hne _ hB (by omega) (fun e => by have := (hrow _ e).2; omega)⟩
  · rw [List.length_append, List.map_append]
    exact ho
  · by_cases hi : i < gs.length
    · rw [List.getElem?_append_left hi] at h1
      rw [List.getElem?_append_left (by rw [← h.len]; exact hi)] at h2
      obtain ⟨a, b, e1, hh⟩ := h.inner i g x h1 h2
      have hgm : g ∈ gs := List.mem_of_getElem? h1
      exact ⟨a, b, e1, (hkeep g (h.lt g hgm) (fun e => (h.ge g hgm).2 (by rw [hbv h.outer]; exact e))).trans hh⟩
    · rw [List.getElem?_append_right (by omega)] at h1
      rw [List.getElem?_append_right (by rw [← h.len]; omega)] at h2
      have hi0 : i - gs.length = 0 := by
        have := (List.getElem?_eq_some_iff.1 h1).1
        simp at this
        omega
      rw [hi0] at h1
      rw [show i - L.length = 0 by rw [← h.len]; exact hi0] at h2
      simp at h1 h2
      subst h1 h2
      exact ⟨d, e, rfl, hnew⟩
set_option maxHeartbeats 8000000 in
set_option maxRecDepth 100000 in
theorem walk_find (A1 A2 : Option Addr) (c1 c2 : Nat) (l theme : List Note) (w : World) (q1 q2 : Bool) (hl : q1 = true → PlaceIn l) (ht : q2 = true → PlaceIn theme ∧ theme ≠ [])
    (K1 : Calls Try.prog 16 #[.slice A1 l.length c1] w fun e w' => e = .returned (.bool q1) ∧ Below w.heap.size w w')
    (K2 : q1 = true → ∀ w1, Below w.heap.size w w1 → Calls Try.prog 17 #[.slice A2 theme.length c2] w1 fun e w' => e = .returned (.bool q2) ∧ Below w1.heap.size w1 w')
    (K3 : q1 = true → ∀ w1 (y : Note), Below w.heap.size w w1 → Calls Try.prog 18 #[.slice A1 l.length c1, .agg #[.int .i64 y.1, .int .i64 y.2.1, .int .i64 y.2.2]] w1 fun e w' => e = .returned (.bool (hasN l y)) ∧ Below w1.heap.size w1 w')
    (hL : NotesAt w w.heap.size A1 l) (hT : NotesAt w w.heap.size A2 theme) :
    Calls Try.prog 7 #[.slice A1 l.length c1, .slice A2 theme.length c2] w fun e w' =>
      ∃ A n c gs, e = .returned (.tuple #[.slice A n c, .bool (q1 && q2)]) ∧ n = (cond (q1 && q2) (fdL l theme (theme.getD 0 (0, 0, 0)) l) []).length ∧ Own2 w' w.heap.size (.slice A n c) (cond (q1 && q2) (fdL l theme (theme.getD 0 (0, 0, 0)) l) []) gs ∧ Below w.heap.size w w' := by
  have HK2 := Kp.mk K2
  have HK3 := Kp.mk K3
  have HL := Kp.mk hL
  have HT := Kp.mk hT
  have HR := Kp.mk (And.intro hl ht)
  clear K2 K3 hL hT hl ht
  go_enter Try.func7, Try.ntmps7
  go_wp2_with fail
  refine K1.mono ?_
  rintro e w1 ⟨rfl, hb1⟩
  have HB1 := Kp.mk hb1
  clear hb1
  cases q1 with
  | false =>
    go_wp2
    go_ret2
    exact ⟨none, 0, 0, [], rfl, rfl, Own2.nil _ _, HB1.out⟩
  | true =>
    go_wp2_with fail
    refine (HK2.out (by first | rfl | trivial) w1 HB1.out).mono ?_
    rintro e w2 ⟨rfl, hb2⟩
    have HB2 := Kp.mk (HB1.out.trans (below_weak hb2 HB1.out.size))
    clear hb2
    cases q2 with
    | false =>
      go_wp2
      go_ret2
      exact ⟨none, 0, 0, [], rfl, rfl, Own2.nil _ _, HB2.out⟩
    | true =>
      have hne := (HR.out.2 (by first | rfl | trivial)).2
      obtain ⟨t, ht0⟩ : ∃ t, theme[0]? = some t := ⟨theme[0]'(List.length_pos_iff.2 hne), List.getElem?_eq_getElem _⟩
      have hgd : theme.getD 0 (0, 0, 0) = t := by simp [List.getD, ht0]
      obtain ⟨b2, o2, rfl, hb2, hc2⟩ := HT.out hne
      have HC2 := Kp.mk hc2
      have HT0 := Kp.mk (And.intro ht0 hgd)
      have hn2 : 0 < theme.length := List.length_pos_iff.2 hne
      clear hc2 ht0 hgd
      go_wp2
      go_loopg [6, 25] l.length (fun kq v6 v25 wr => ∃ (i : Nat) (L : List (List Int)) (gs : List Nat) (A : Option Addr) (n c : Nat), v6 = .slice A n c ∧ v25 = .int .i64 i ∧ Kp (i + kq = l.length) ∧ Kp (n = L.length ∧ L.length ≤ i ∧ fdL l theme t l = L ++ fdL l theme t (l.drop i)) ∧ Kp (Own2 wr w.heap.size (.slice A n c) L gs) ∧ Kp (Below w.heap.size w wr))
      case atStart =>
        have hr : Own2 (w2.alloc (Obj.cells #[] 37)) w.heap.size (.slice (some ⟨w2.heap.size, 0, none⟩) 0 0) [] [] :=
          ⟨rfl, List.nodup_nil, (fun g hg => by cases hg), World.ownsRow_made w2 #[] 0 HB2.out.size (by unfold maxLen; omega) rfl, (fun i g x h => by simp at h)⟩
        exact ⟨0, [], [], some ⟨w2.heap.size, 0, none⟩, 0, 0, rfl, rfl, ⟨by omega⟩, ⟨rfl, Nat.le_refl _, by simp⟩, ⟨hr⟩, ⟨HB2.out.trans (below_weak (below_alloc w2 _) HB2.out.size)⟩⟩
      case round =>
        obtain ⟨i, L, gs, A, n, c, rfl, rfl, HI, HLn, HO, HB⟩ := hrel
        cases gk with
        | zero =>
          have ei : i = l.length := by have := HI.out; omega
          have hfin : fdL l theme t l = L := by
            have h := HLn.out.2.2
            rw [ei, List.drop_length] at h
            simpa [fdL] using h
          subst ei
          go_wp2
          go_ret2
          rw [HT0.out.2]
          refine ⟨A, n, c, gs, rfl, ?_, ?_, HB.out⟩
          · show n = (fdL l theme t l).length
            rw [hfin]; exact HLn.out.1
          · show Own2 _ _ _ (fdL l theme t l) gs
            rw [hfin]; exact HO.out
        | succ k1 =>
          have hi : i < l.length := by have := HI.out; omega
          obtain ⟨x, hx⟩ : ∃ x, l[i]? = some x := ⟨l[i], List.getElem?_eq_getElem hi⟩
          obtain ⟨b1, o1, rfl, hb1, hc1⟩ := (HL.out.to HB.out) (by rintro rfl; simp at hi)
          obtain ⟨q1, q2, q3⟩ := hc1 i x hx
          obtain ⟨s1, s2, _⟩ := HC2.out 0 t HT0.out.1
          have hb2r : b2 < wr.heap.size := Nat.lt_of_lt_of_le hb2 HB.out.size
          have r4 : ∀ o, (wr.alloc o).cell? ⟨b2, o2, none⟩ = some (.int .i64 t.1) := fun o => by
            have h := ((below_alloc wr o).cell (p := ⟨b2, o2, none⟩) hb2r).trans ((HB.out.cell (p := ⟨b2, o2, none⟩) hb2).trans (by simpa using s1))
            exact h
          have r5 : ∀ o, (wr.alloc o).cell? ⟨b2, o2 + 1, none⟩ = some (.int .i64 t.2.1) := fun o => by
            have h := ((below_alloc wr o).cell (p := ⟨b2, o2 + 1, none⟩) hb2r).trans ((HB.out.cell (p := ⟨b2, o2 + 1, none⟩) hb2).trans (by simpa using s2))
            exact h
          have HX := Kp.mk (And.intro hx hi)
          have HB1 := Kp.mk (And.intro hb1 hc1)
          clear hc1 s1 s2 hx
          have c0 : decide ((i : Int) < (l.length : Int)) = true := by rw [decide_eq_true]; omega
          have p0 : (0 : Int) ≤ (i : Int) := by omega
          have p1 : (i : Int) < (l.length : Int) := by omega
          have p2 : (0 : Int) < (theme.length : Int) := by omega
          replace p0 := eq_true p0
          replace p1 := eq_true p1
          replace p2 := eq_true p2
          go_wp2_with fail
          go_region
          all_goals (go_wp2_with fail)
          have hxr := ((HR.out.1 (by first | rfl | trivial)).2 x (List.mem_of_getElem? HX.out.1))
          have htr := (((HR.out.2 (by first | rfl | trivial)).1).2 t (List.mem_of_getElem? HT0.out.1))
          have ed : wrap64 (x.2.1 - t.2.1) = x.2.1 - t.2.1 := by unfold wrap64; omega
          have ee : wrap64 (x.1 - t.1) = x.1 - t.1 := by unfold wrap64; omega
          have HDE := Kp.mk (show (-2000 ≤ x.2.1 - t.2.1 ∧ x.2.1 - t.2.1 ≤ 2000) ∧ (-2000 ≤ x.1 - t.1 ∧ x.1 - t.1 ≤ 2000) by omega)
          clear hxr htr
          rw [ed, ee]
          clear ed ee
          have HBi := Kp.mk ((below_alloc wr (Obj.cells #[Value.int IntKind.i64 x.1, Value.int IntKind.i64 x.2.1, Value.int IntKind.i64 x.2.2] 35)).trans (below_drew _ _))
          generalize (wr.alloc (Obj.cells #[Value.int IntKind.i64 x.1, Value.int IntKind.i64 x.2.1, Value.int IntKind.i64 x.2.2] 35)).drew = wi at HBi
          obtain ⟨d, hd⟩ : ∃ d, x.2.1 - t.2.1 = d := ⟨_, rfl⟩
          obtain ⟨e, he⟩ : ∃ e, x.1 - t.1 = e := ⟨_, rfl⟩
          rw [hd, he] at HDE
          rw [hd, he]
          have HQ := Kp.mk (And.intro hd he)
          clear hd he
          clear r4 r5 q1 q2 q3 p0 p1 p2 c0
          go_loopg [11, 45] theme.length (fun kq v11 v45 wn => ∃ (k : Nat) (all : Bool), v11 = .bool all ∧ v45 = .int .i64 k ∧ Kp (k + kq = theme.length) ∧ Kp ((all && (theme.drop k).all fun y => hasN l (y.1 + e, y.2.1 + d, y.2.2)) = thA l theme d e) ∧ Kp (Below wi.heap.size wi wn))
          case atStart => exact ⟨0, true, rfl, rfl, ⟨by omega⟩, ⟨by simp [thA]⟩, ⟨Below.refl _ _⟩⟩
          case round =>
            obtain ⟨k, all, rfl, rfl, HK, HA, HBn⟩ := hrel
            have HBw := Kp.mk (HB.out.trans (below_weak (HBi.out.trans (below_weak HBn.out HBi.out.size)) HB.out.size))
            cases gk with
            | zero =>
              have hall : all = thA l theme d e := by
                have h := HA.out
                rw [List.drop_eq_nil_of_le (by have := HK.out; omega), List.all_nil, Bool.and_true] at h
                exact h
              have HALL := Kp.mk hall
              clear hall
              have ek : k = theme.length := by have := HK.out; omega
              subst ek
              have HOn := Kp.mk (HO.out.below (HBi.out.trans (below_weak HBn.out HBi.out.size)))
              have HIL := Kp.mk (show i + 1 + k1 = l.length by have := HI.out; omega)
              cases all with
              | true =>
                obtain ⟨ii, hi1, hi2, hi3, hi4⟩ := info_parts (show (Try.prog.info? 37).map (fun i => (i.zero, i.size, i.bytes)) = some (some (.slice none 0 0), 1, 24) by kernel_rfl)
                have hu : Try.prog.underlying 24 = some (.slice 37) := by kernel_rfl
                have hnL : n = L.length := HLn.out.1
                have hLi : L.length ≤ 1000 := by have := HLn.out.2.1; have := HX.out.2; have := (HR.out.1 (by first | rfl | trivial)).1; omega
                subst hnL
                have hown1 : ((wr.alloc (Obj.cells #[Value.int IntKind.i64 d, Value.int IntKind.i64 e] 3)).alloc (Obj.cells #[encP wr.heap.size] 37)).ownsRow w.heap.size 37 1 (.slice A L.length c) L.length (gs.map encP) := ((HOn.out.outer).alloc _).alloc _
                have hnews : ∀ j u, [encP wr.heap.size][j]? = some u → ((wr.alloc (Obj.cells #[Value.int IntKind.i64 d, Value.int IntKind.i64 e] 3)).alloc (Obj.cells #[encP wr.heap.size] 37)).cell? ((⟨wr.heap.size + 1, 0, none⟩ : Addr).add j) = some u := by
                  have h := cell_one_new (wr.alloc (Obj.cells #[Value.int IntKind.i64 d, Value.int IntKind.i64 e] 3)) (encP wr.heap.size) 37
                  rw [show (wr.alloc (Obj.cells #[Value.int IntKind.i64 d, Value.int IntKind.i64 e] 3)).heap.size = wr.heap.size + 1 by simp] at h
                  exact h
                have hbs : w.heap.size ≤ ((wr.alloc (Obj.cells #[Value.int IntKind.i64 d, Value.int IntKind.i64 e] 3)).alloc (Obj.cells #[encP wr.heap.size] 37)).heap.size := by have := HBw.out.size; simp; omega
                have HO1 := Kp.mk hown1
                have HN1 := Kp.mk hnews
                have HBs := Kp.mk hbs
                have HLi := Kp.mk hLi
                clear hown1 hnews hbs hLi
                go_wp2_with (at_builtin; go_loud (refine wpList_append_own_at _ rfl _ _ 24 rfl w.heap.size 37 ii (.slice none 0 0) 1 24 hu hi1 hi2 hi3 hi4 rfl (by decide) _ L.length (gs.map encP) rfl HO1.out ⟨_, 0, none⟩ 1 1 [encP wr.heap.size] rfl rfl HN1.out (fun u hu => by rw [List.mem_singleton.1 hu]; rfl) (by have := HLi.out; unfold maxLen; omega) (by have := HLi.out; omega) HBs.out ?_))
                intro v1 w4 hown4 hgrow4 hnil4 hat4
                obtain ⟨hO4, hB4⟩ := HOn.out.app HBw.out.size hown4 hgrow4 hat4
                have hsl : ∃ A' c', v1 = .slice A' (L.length + 1) c' := by
                  rcases hown4.2 with ⟨_, h0⟩ | ⟨g0, c0, _, h, _⟩
                  · omega
                  · exact ⟨_, _, h⟩
                obtain ⟨A', c', rfl⟩ := hsl
                have HO4 := Kp.mk hO4
                have HB4 := Kp.mk (HBw.out.trans (show Below w.heap.size wr w4 from hB4))
                clear hO4 hB4 hown4 hgrow4 hnil4 hat4
                go_wp2
                go_roundg k1
                case measure => omega
                case rel =>
                  refine ⟨i + 1, L ++ [[d, e]], gs ++ [wr.heap.size], A', L.length + 1, c', rfl, ?_, ⟨HIL.out⟩, ⟨by simp, by have := HLn.out.2.1; simp; omega, ?_⟩, HO4, HB4⟩
                  · congr 1
                    have := HIL.out; have := (HR.out.1 (by first | rfl | trivial)).1
                    unfold wrap64
                    omega
                  · have h := HLn.out.2.2
                    rw [List.drop_eq_getElem_cons HX.out.2, show l[i]'HX.out.2 = x from by have h := HX.out.1; rw [List.getElem?_eq_getElem HX.out.2] at h; exact Option.some.inj h] at h
                    rw [fdL_cons, HQ.out.1, HQ.out.2, ← HALL.out, cond_true] at h
                    rw [h, List.append_assoc]
                    rfl
              | false =>
                go_wp2_with fail
                go_roundg k1
                case measure => omega
                case rel =>
                  refine ⟨i + 1, L, gs, A, n, c, rfl, ?_, ⟨HIL.out⟩, ⟨HLn.out.1, by have := HLn.out.2.1; omega, ?_⟩, HOn, HBw⟩
                  · congr 1
                    have := HIL.out; have := (HR.out.1 (by first | rfl | trivial)).1
                    unfold wrap64
                    omega
                  · have h := HLn.out.2.2
                    rw [List.drop_eq_getElem_cons HX.out.2, show l[i]'HX.out.2 = x from by have h := HX.out.1; rw [List.getElem?_eq_getElem HX.out.2] at h; exact Option.some.inj h] at h
                    rw [fdL_cons, HQ.out.1, HQ.out.2, ← HALL.out, cond_false] at h
                    exact h
            | succ k2 =>
              have hk : k < theme.length := by have := HK.out; omega
              obtain ⟨y, hy⟩ : ∃ y, theme[k]? = some y := ⟨theme[k], List.getElem?_eq_getElem hk⟩
              obtain ⟨s1, s2, s3⟩ := HC2.out k y hy
              have q4 := (HBw.out.cell (p := ⟨b2, o2 + k * 3, none⟩) hb2).trans s1
              have q5 := (HBw.out.cell (p := ⟨b2, o2 + k * 3 + 1, none⟩) hb2).trans s2
              have q6 := (HBw.out.cell (p := ⟨b2, o2 + k * 3 + 2, none⟩) hb2).trans s3
              have HY := Kp.mk (And.intro hy hk)
              clear s1 s2 s3 hy
              have c0 : decide ((k : Int) < (theme.length : Int)) = true := by rw [decide_eq_true]; omega
              have p0 : (0 : Int) ≤ (k : Int) := by omega
              have p1 : (k : Int) < (theme.length : Int) := by omega
              replace p0 := eq_true p0
              replace p1 := eq_true p1
              cases all with
              | true =>
                go_wp2_with fail
                have hyr := (((HR.out.2 (by first | rfl | trivial)).1).2 y (List.mem_of_getElem? HY.out.1))
                have hde := HDE.out
                have e1 : wrap64 (y.1 + e) = y.1 + e := by unfold wrap64; omega
                have e2 : wrap64 (y.2.1 + d) = y.2.1 + d := by unfold wrap64; omega
                clear hyr hde
                rw [e1, e2]
                have hbA := below_alloc wr (Obj.cells #[Value.int IntKind.i64 (y.1 + e), Value.int IntKind.i64 (y.2.1 + d), Value.int IntKind.i64 y.2.2] 35)
                refine (HK3.out (by first | rfl | trivial) _ (y.1 + e, y.2.1 + d, y.2.2) (HBw.out.trans (below_weak hbA HBw.out.size))).mono ?_
                rintro e' w3 ⟨rfl, hb3⟩
                have HB3 := Kp.mk (HBn.out.trans (below_weak (hbA.trans (below_weak hb3 hbA.size)) HBn.out.size))
                clear hb3 hbA e1 e2
                go_wp2
                go_roundg k2
                case measure => omega
                case rel =>
                  refine ⟨k + 1, hasN l (y.1 + e, y.2.1 + d, y.2.2), rfl, ?_, ⟨by have := HK.out; omega⟩, ⟨?_⟩, HB3⟩
                  · congr 1
                    have := HK.out; have := (HR.out.2 (by first | rfl | trivial)).1.1
                    unfold wrap64
                    omega
                  · have h := HA.out
                    rw [List.drop_eq_getElem_cons HY.out.2, show theme[k]'HY.out.2 = y from by have h := HY.out.1; rw [List.getElem?_eq_getElem HY.out.2] at h; exact Option.some.inj h] at h
                    rw [← h]
                    simp
              | false =>
                go_wp2_with fail
                have hbA := below_alloc wr (Obj.cells #[Value.int IntKind.i64 (wrap64 (y.1 + e)), Value.int IntKind.i64 (wrap64 (y.2.1 + d)), Value.int IntKind.i64 y.2.2] 35)
                have HB3 := Kp.mk (HBn.out.trans (below_weak hbA HBn.out.size))
                clear hbA
                go_roundg k2
                case measure => omega
                case rel =>
                  refine ⟨k + 1, false, rfl, ?_, ⟨by have := HK.out; omega⟩, ⟨by have h := HA.out; simpa using h⟩, HB3⟩
                  congr 1
                  have := HK.out; have := (HR.out.2 (by first | rfl | trivial)).1.1
                  unfold wrap64
                  omega
end Go.Proofs.Ytpegolnoadpjhaa.R
