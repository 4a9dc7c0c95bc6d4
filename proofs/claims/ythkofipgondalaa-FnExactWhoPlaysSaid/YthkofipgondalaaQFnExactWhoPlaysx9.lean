-- WRITTEN BY qprint.py OF THIS SESSION: the kit's print with own contracts and turned arms; not the print's own text.
import Derived.Test.YthkofipgondalaaQFnExactWhoPlaysx0
import Derived.Test.YthkofipgondalaaQFnExactWhoPlaysx1
import Derived.Test.YthkofipgondalaaQFnExactWhoPlaysx2
import Derived.Test.YthkofipgondalaaQFnExactWhoPlaysx3
import Derived.Test.YthkofipgondalaaQFnExactWhoPlaysx6
import Derived.Test.YthkofipgondalaaQFnExactWhoPlaysx7
import Derived.Test.YthkofipgondalaaQFnExactWhoPlaysx8
namespace Go.Proofs.Ythkofipgondalaa.QFnExactWhoPlays
open Go.RowKit Go.Proofs.YthkofipgondalaaW.PrintWords Go.Proofs.YthkofipgondalaaW.PrintLast Go.Proofs.YthkofipgondalaaW.PrintMore
attribute [local go_sem] max2_int min2_int max_two min_two max_three min_three max_four min_four   -- for this text's walks alone
set_option linter.unusedVariables false
set_option linter.unusedSimpArgs false

def impl_canPlay.l0 : Nat → List (S85) → List (S85) → Int → Int → List Int → Int → Option (Bool)
 | 0,_,_,_,_,_,_ => none
 | k + 1,x1,x7,x8,x9,x307000,x307001 => if x9 < x8 then (if 0 ≤ x9 then (if x9 < (x7.length : Int) then ((slices_Contains_int_int.f k x307000 ((rd_T85 x7 x9).f0)).bind fun t309 => (if t309 = true then (impl_canPlay.l0 k x1 x7 x8 (wrap64 (x9 + 1)) x307000 x307001) else (some false))) else (none)) else (none)) else ((impl_fastRepeats.f k x1 x307001).bind fun t310 => (some ((t310.length : Int) == 0)))
def impl_canPlay.f (k : Nat) (l0_0 : List Int) (a0_1 : Int) (l1 : List (S85)) : Option (Bool):=impl_canPlay.l0 k l1 l1 (l1.length : Int) 0 l0_0 a0_1
theorem impl_canPlay.mono_l : ∀ k,(∀ y0 y1 y2 y3 y4 y5,LeO (impl_canPlay.l0 k y0 y1 y2 y3 y4 y5) (impl_canPlay.l0 (k + 1) y0 y1 y2 y3 y4 y5))
 | 0 => fun _ _ _ _ _ _ r h => by simp [impl_canPlay.l0] at h
 | k + 1 => by
  have ih0:=impl_canPlay.mono_l k
  ·
   intro y0 y1 y2 y3 y4 y5
   unfold impl_canPlay.l0
   repeat' first
   | (with_reducible exact ih0 _ _ _ _ _ _)
   | (with_reducible exact impl_fastRepeats.mono _ _ _)
   | (with_reducible exact slices_Contains_int_int.mono _ _ _)
   | (with_reducible exact LeO.refl _)
   | (with_reducible exact LeO.none _)
   | (with_reducible refine LeO.ite ?_ ?_)
   | (with_reducible refine LeO.bind ?_ (fun _ => ?_))
   | exact ih0 _ _ _ _ _ _
   | exact LeO.none _
   | refine LeO.ite ?_ ?_
   | refine LeO.bind ?_ (fun _ => ?_)
theorem impl_canPlay.mono : ∀ a0 a1 a2 k,LeO (impl_canPlay.f k a0 a1 a2) (impl_canPlay.f (k + 1) a0 a1 a2):=by
 intro a0 a1 a2 k
 have ih0:=impl_canPlay.mono_l k
 unfold impl_canPlay.f
 repeat' first
   | (with_reducible exact ih0 _ _ _ _ _ _)
   | (with_reducible exact impl_fastRepeats.mono _ _ _)
   | (with_reducible exact slices_Contains_int_int.mono _ _ _)
   | (with_reducible exact LeO.refl _)
   | (with_reducible exact LeO.none _)
   | (with_reducible refine LeO.ite ?_ ?_)
   | (with_reducible refine LeO.bind ?_ (fun _ => ?_))
   | exact ih0 _ _ _ _ _ _
   | exact LeO.none _
   | refine LeO.ite ?_ ?_
   | refine LeO.bind ?_ (fun _ => ?_)
set_option maxHeartbeats 8000000 in
set_option maxRecDepth 100000 in
theorem impl_canPlay.calls (k : Nat) (A0_0 : Option Addr) (c0_0 : Nat) (l0_0 : List Int) (a0_1 : Int) (A1 : Option Addr) (c1 : Nat) (l1 : List (S85)) (r : Bool) (w : World) (hr0_0 : Kd.C (Kd.int .i64) w A0_0 l0_0.length l0_0) (hc0_0 : l0_0.length ≤ c0_0) (hr1 : Kd.C k85 w A1 l1.length l1) (hc1 : l1.length ≤ c1) (h : impl_canPlay.f k l0_0 a0_1 l1 = some r) :
  Calls Try.prog 155 #[.agg #[.slice A0_0 l0_0.length c0_0,.int .i64 a0_1],.slice A1 l1.length c1] w fun e w' => e = .returned (.bool r) ∧ Below w.heap.size w w':=by
 have hu102:=Try.underlying102
 have hu85:=Try.underlying85
 have HR0_0:=Aside0.mk hr0_0
 have HC0_0:=Aside0.mk hc0_0
 clear hr0_0 hc0_0
 have HR1:=Aside0.mk hr1
 have HC1:=Aside0.mk hc1
 clear hr1 hc1
 have HB:=Aside0.mk (Below.refl w.heap.size w)
 have H : (impl_canPlay.l0 k l1 l1 (l1.length : Int) 0 l0_0 a0_1) = some r:=h
 clear h
 have H':=Aside0.mk H
 clear H
 go_enter Try.func155,Try.ntmps155
 go_wp2_with (first|((with_reducible refine gate_dst (N:=2) rfl ?_);refine box_event ?hg (N:=2) ?hd (cs:=#[.slice A0_0 l0_0.length c0_0,.int .i64 a0_1]) (t:=102) ?hr ?_;(case hd => rfl);(case hg => rfl);(case hr => first|(go_simp;done)|(go_simp;rfl));intro gb306 hg w3 hbox hb;have n0_:=Aside0.mk (below_step (by repeat (first|(with_reducible first|exact HB.out|apply below_alloc|apply pw_below_drewN|apply below_drew1)|exact HB.out)) hb);have n1_:=Aside0.mk (hbox);have n2_:=Aside0.mk ((by rw [hg];exact (below_size (by repeat (first|(with_reducible first|exact HB.out|apply below_alloc|apply pw_below_drewN|apply below_drew1)|exact HB.out))) : w.heap.size ≤ gb306));have n3_:=Aside0.mk ((by rw [hg];exact (below_size (by repeat (first|(with_reducible first|exact HB.out|apply below_alloc|apply pw_below_drewN|apply below_drew1)|exact HB.out))) : w.heap.size ≤ gb306));clear HB;have HB:=n0_;have BK306:=n1_;have GW306:=n2_;have GE306:=n3_;clear n0_ n1_ n2_ n3_;clear hb hbox hg))
 go_loopg [9] k (fun kq v9 w' => ∃ (x9_1 : Int),v9 = .int .i64 x9_1 ∧ Aside0 (impl_canPlay.l0 kq l1 l1 (l1.length : Int) x9_1 l0_0 a0_1 = some r) ∧ Aside0 (kq ≤ k) ∧ Aside0 (w'.heap[gb306]? = some (.cells #[(.slice A0_0 l0_0.length c0_0),.int .i64 a0_1] 102 (0,0))) ∧ Aside0 (Below w.heap.size w w'))
 case atStart => exact ⟨(0),(by first|rfl|(simp;done)|(simp [*];done)),H',⟨Nat.le_refl _⟩,⟨by (with_reducible repeat (first|refine blk_drewN ?_ _|refine blk_drew ?_|refine blk_alloc ?_ _));exact BK306.out⟩,⟨by repeat (first|(with_reducible first|exact HB.out|apply below_alloc|apply pw_below_drewN|apply below_drew1|refine below_set ?_ GE306.out)|exact HB.out)⟩⟩
 case round =>
  clear H';try clear c1
  try clear p2
  obtain ⟨x9_1,rfl,HA,HK1,BK306,HB⟩:=hrel
  cases gk with
  | zero => exact absurd HA.out (by simp [impl_canPlay.l0])
  | succ k1 =>
   have H:=HA.out
   clear HA;simp only [impl_canPlay.l0] at H;by_cases c4 : x9_1 < (l1.length : Int)
   ·
    rw [if_pos c4] at H
    have c4b0 : decide (x9_1 < (l1.length : Int)) = true:=decide_eq_true c4
    clear c4;by_cases c5 : 0 ≤ x9_1
    ·
     rw [if_pos c5] at H
     have c5b0 : decide (0 ≤ x9_1) = true:=decide_eq_true c5
     clear c5;by_cases c6 : x9_1 < (l1.length : Int)
     ·
      rw [if_pos c6] at H
      have c6b0 : decide (x9_1 < (l1.length : Int)) = true:=decide_eq_true c6
      clear c6;replace H:=Option.bind_eq_some_iff.mp H;obtain ⟨t309,A70,H⟩:=H;replace H : (if t309 = true then (impl_canPlay.l0 k1 l1 l1 (l1.length : Int) (wrap64 (x9_1 + 1)) l0_0 a0_1) else (some false)) = some r:=H;have A7:=Aside0.mk A70;clear A70;by_cases c8 : t309 = true
      ·
       subst c8;have H1 : (impl_canPlay.l0 k1 l1 l1 (l1.length : Int) (wrap64 (x9_1 + 1)) l0_0 a0_1) = some r:=by rw [if_pos rfl] at H;exact H
       clear H;have H:=H1;clear H1;have H':=Aside0.mk H;clear H;have p307 : 0 ≤ (x9_1 : Int):=of_decide_eq_true (by assumption)
       have q307 : x9_1 < (l1.length : Int):=of_decide_eq_true (by assumption)
       obtain ⟨ad307,e307,hx307_0,hx307_1,hx307_2⟩:=at_T85 HR1.out x9_1 p307 q307
       cases e307
       replace hx307_0:=(HB.out.cell (World.block_lt_of_cell? w _ hx307_0)).trans hx307_0
       replace hx307_1:=(HB.out.cell (World.block_lt_of_cell? w _ hx307_1)).trans hx307_1
       replace hx307_2:=(HB.out.cell (World.block_lt_of_cell? w _ hx307_2)).trans hx307_2
       replace p307:=eq_true p307;replace q307:=eq_true q307;go_wp2_with (first|((with_reducible refine gate_dst (N:=6) rfl ?_);refine box_event ?hg (N:=6) ?hd (cs:=#[.int .i64 0,.int .i64 0,.int .i64 0]) (t:=85) ?hr ?_;(case hd => rfl);(case hg => rfl);(case hr => first|(go_simp;done)|(go_simp;rfl));intro gb308 hg w9 hbox hb;have n0_:=Aside0.mk (blk_below (g:=gb306) (o:=.cells #[.slice A0_0 l0_0.length c0_0,.int .i64 a0_1] 102 (0,0)) (by (with_reducible repeat (first|refine blk_drewN ?_ _|refine blk_drew ?_|refine blk_alloc ?_ _));exact BK306.out) hb);have n1_:=Aside0.mk (below_step (by repeat (first|(with_reducible first|exact HB.out|apply below_alloc|apply pw_below_drewN|apply below_drew1|refine below_set ?_ GE306.out)|exact HB.out)) hb);have n2_:=Aside0.mk (hbox);have n3_:=Aside0.mk ((by rw [hg];exact (below_size (by repeat (first|(with_reducible first|exact HB.out|apply below_alloc|apply pw_below_drewN|apply below_drew1|refine below_set ?_ GE306.out)|exact HB.out))) : w.heap.size ≤ gb308));have n4_:=Aside0.mk ((by rw [hg];exact (below_size (by repeat (first|(with_reducible first|exact HB.out|apply below_alloc|apply pw_below_drewN|apply below_drew1|refine below_set ?_ GE306.out)|exact HB.out))) : w.heap.size ≤ gb308));have n5_:=Aside0.mk ((by rw [hg];exact Nat.ne_of_lt (blk_lt (g:=gb306) (o:=.cells #[.slice A0_0 l0_0.length c0_0,.int .i64 a0_1] 102 (0,0)) (by (with_reducible repeat (first|refine blk_drewN ?_ _|refine blk_drew ?_|refine blk_alloc ?_ _));exact BK306.out)) : gb306 ≠ gb308));have n6_:=Aside0.mk ((by rw [hg];exact Nat.ne_of_gt (blk_lt (g:=gb306) (o:=.cells #[.slice A0_0 l0_0.length c0_0,.int .i64 a0_1] 102 (0,0)) (by (with_reducible repeat (first|refine blk_drewN ?_ _|refine blk_drew ?_|refine blk_alloc ?_ _));exact BK306.out)) : gb308 ≠ gb306));clear BK306;clear HB;have BK306:=n0_;have HB:=n1_;have BK308:=n2_;have GW308:=n3_;have GE308:=n4_;have NB306_308:=n5_;have NB308_306:=n6_;clear n0_ n1_ n2_ n3_ n4_ n5_ n6_;clear hb hbox hg;have hnb10:=NB308_306.out;have hnc10:=NB306_308.out;have hcz11_0 : w9.cell? ⟨gb308,0,none⟩ = some (.int .i64 0):=(blk_cell BK308.out 0).trans rfl;have hcz11_1 : w9.cell? ⟨gb308,1,none⟩ = some (.int .i64 0):=(blk_cell BK308.out 1).trans rfl;have hcz11_2 : w9.cell? ⟨gb308,2,none⟩ = some (.int .i64 0):=(blk_cell BK308.out 2).trans rfl;have hfz11_0:=blk_frozen BK308.out 0;have hfz11_1:=blk_frozen BK308.out 1;have hfz11_2:=blk_frozen BK308.out 2;have hcz12_0 : w9.cell? ⟨gb306,0,none⟩ = some (.slice A0_0 l0_0.length c0_0):=(blk_cell BK306.out 0).trans rfl;have hcz12_1 : w9.cell? ⟨gb306,1,none⟩ = some (.int .i64 a0_1):=(blk_cell BK306.out 1).trans rfl;have hfz12_0:=blk_frozen BK306.out 0;have hfz12_1:=blk_frozen BK306.out 1)|((with_reducible refine gate_callee (f:=153) rfl ?_);refine goesL_ (some 17) rfl rfl Try.func153 (by kernel_rfl) rfl #[.slice A0_0 l0_0.length c0_0,.int .i64 ((rd_T85 l1 x9_1).f0)] rfl (by (try simp only [List.map_toArray,List.map_cons,List.map_nil]);first|done|rfl|(simp only [List.length_drop,List.length_take];rfl)) ?_;(with_reducible refine (slices_Contains_int_int.calls k1 _ _ l0_0 ((rd_T85 l1 x9_1).f0) true _ ?side1 ?side2 A7.out).mono ?_);(case side1 => exact Kd.C_below HR0_0.out (by repeat (first|(with_reducible first|exact HB.out|apply below_alloc|apply pw_below_drewN|apply below_drew1|refine below_set ?_ GE306.out|refine below_set ?_ GE308.out)|exact HB.out)));(case side2 => exact HC0_0.out);rintro e w' ⟨rfl,⟨nd,rfl⟩⟩;refine ⟨_,rfl,?_⟩))
       go_roundg k1
       case measure => have:=HK1.out;omega
       case rel => exact ⟨(wrap64 (x9_1 + 1)),(by first|rfl|(simp;done)|(simp [*];done)),H',⟨by have:=HK1.out;omega⟩,⟨by (with_reducible repeat (first|refine blk_drewN ?_ _|refine blk_drew ?_|refine blk_alloc ?_ _));refine blk_far ?_ NB306_308.out _;(with_reducible repeat (first|refine blk_drewN ?_ _|refine blk_drew ?_|refine blk_alloc ?_ _));refine blk_far ?_ NB306_308.out _;(with_reducible repeat (first|refine blk_drewN ?_ _|refine blk_drew ?_|refine blk_alloc ?_ _));refine blk_far ?_ NB306_308.out _;(with_reducible repeat (first|refine blk_drewN ?_ _|refine blk_drew ?_|refine blk_alloc ?_ _));exact BK306.out⟩,⟨by repeat (first|(with_reducible first|exact HB.out|apply below_alloc|apply pw_below_drewN|apply below_drew1|refine below_set ?_ GE306.out|refine below_set ?_ GE308.out)|exact HB.out)⟩⟩
      ·
       replace c8:=Bool.eq_false_iff.mpr c8
       subst c8;have H1 : (some false) = some r:=by rw [if_neg (show ¬ (false = true) by decide)] at H;exact H
       clear H;have H:=H1;clear H1;obtain rfl:=Option.some.inj H;have p307 : 0 ≤ (x9_1 : Int):=of_decide_eq_true (by assumption)
       have q307 : x9_1 < (l1.length : Int):=of_decide_eq_true (by assumption)
       obtain ⟨ad307,e307,hx307_0,hx307_1,hx307_2⟩:=at_T85 HR1.out x9_1 p307 q307
       cases e307
       replace hx307_0:=(HB.out.cell (World.block_lt_of_cell? w _ hx307_0)).trans hx307_0
       replace hx307_1:=(HB.out.cell (World.block_lt_of_cell? w _ hx307_1)).trans hx307_1
       replace hx307_2:=(HB.out.cell (World.block_lt_of_cell? w _ hx307_2)).trans hx307_2
       replace p307:=eq_true p307;replace q307:=eq_true q307;go_wp2_with (first|((with_reducible refine gate_dst (N:=6) rfl ?_);refine box_event ?hg (N:=6) ?hd (cs:=#[.int .i64 0,.int .i64 0,.int .i64 0]) (t:=85) ?hr ?_;(case hd => rfl);(case hg => rfl);(case hr => first|(go_simp;done)|(go_simp;rfl));intro gb308 hg w13 hbox hb;have n0_:=Aside0.mk (blk_below (g:=gb306) (o:=.cells #[.slice A0_0 l0_0.length c0_0,.int .i64 a0_1] 102 (0,0)) (by (with_reducible repeat (first|refine blk_drewN ?_ _|refine blk_drew ?_|refine blk_alloc ?_ _));exact BK306.out) hb);have n1_:=Aside0.mk (below_step (by repeat (first|(with_reducible first|exact HB.out|apply below_alloc|apply pw_below_drewN|apply below_drew1|refine below_set ?_ GE306.out)|exact HB.out)) hb);have n2_:=Aside0.mk (hbox);have n3_:=Aside0.mk ((by rw [hg];exact (below_size (by repeat (first|(with_reducible first|exact HB.out|apply below_alloc|apply pw_below_drewN|apply below_drew1|refine below_set ?_ GE306.out)|exact HB.out))) : w.heap.size ≤ gb308));have n4_:=Aside0.mk ((by rw [hg];exact (below_size (by repeat (first|(with_reducible first|exact HB.out|apply below_alloc|apply pw_below_drewN|apply below_drew1|refine below_set ?_ GE306.out)|exact HB.out))) : w.heap.size ≤ gb308));have n5_:=Aside0.mk ((by rw [hg];exact Nat.ne_of_lt (blk_lt (g:=gb306) (o:=.cells #[.slice A0_0 l0_0.length c0_0,.int .i64 a0_1] 102 (0,0)) (by (with_reducible repeat (first|refine blk_drewN ?_ _|refine blk_drew ?_|refine blk_alloc ?_ _));exact BK306.out)) : gb306 ≠ gb308));have n6_:=Aside0.mk ((by rw [hg];exact Nat.ne_of_gt (blk_lt (g:=gb306) (o:=.cells #[.slice A0_0 l0_0.length c0_0,.int .i64 a0_1] 102 (0,0)) (by (with_reducible repeat (first|refine blk_drewN ?_ _|refine blk_drew ?_|refine blk_alloc ?_ _));exact BK306.out)) : gb308 ≠ gb306));clear BK306;clear HB;have BK306:=n0_;have HB:=n1_;have BK308:=n2_;have GW308:=n3_;have GE308:=n4_;have NB306_308:=n5_;have NB308_306:=n6_;clear n0_ n1_ n2_ n3_ n4_ n5_ n6_;clear hb hbox hg;have hnb14:=NB308_306.out;have hnc14:=NB306_308.out;have hcz15_0 : w13.cell? ⟨gb308,0,none⟩ = some (.int .i64 0):=(blk_cell BK308.out 0).trans rfl;have hcz15_1 : w13.cell? ⟨gb308,1,none⟩ = some (.int .i64 0):=(blk_cell BK308.out 1).trans rfl;have hcz15_2 : w13.cell? ⟨gb308,2,none⟩ = some (.int .i64 0):=(blk_cell BK308.out 2).trans rfl;have hfz15_0:=blk_frozen BK308.out 0;have hfz15_1:=blk_frozen BK308.out 1;have hfz15_2:=blk_frozen BK308.out 2;have hcz16_0 : w13.cell? ⟨gb306,0,none⟩ = some (.slice A0_0 l0_0.length c0_0):=(blk_cell BK306.out 0).trans rfl;have hcz16_1 : w13.cell? ⟨gb306,1,none⟩ = some (.int .i64 a0_1):=(blk_cell BK306.out 1).trans rfl;have hfz16_0:=blk_frozen BK306.out 0;have hfz16_1:=blk_frozen BK306.out 1)|((with_reducible refine gate_callee (f:=153) rfl ?_);refine goesL_ (some 17) rfl rfl Try.func153 (by kernel_rfl) rfl #[.slice A0_0 l0_0.length c0_0,.int .i64 ((rd_T85 l1 x9_1).f0)] rfl (by (try simp only [List.map_toArray,List.map_cons,List.map_nil]);first|done|rfl|(simp only [List.length_drop,List.length_take];rfl)) ?_;(with_reducible refine (slices_Contains_int_int.calls k1 _ _ l0_0 ((rd_T85 l1 x9_1).f0) false _ ?side1 ?side2 A7.out).mono ?_);(case side1 => exact Kd.C_below HR0_0.out (by repeat (first|(with_reducible first|exact HB.out|apply below_alloc|apply pw_below_drewN|apply below_drew1|refine below_set ?_ GE306.out|refine below_set ?_ GE308.out)|exact HB.out)));(case side2 => exact HC0_0.out);rintro e w' ⟨rfl,⟨nd,rfl⟩⟩;refine ⟨_,rfl,?_⟩))
       go_ret
       exact ⟨by first|rfl|(simp [errW_none,errW_some] <;> rfl)|(simp [*,errW_none,errW_some] <;> rfl),by repeat (first|(with_reducible first|exact HB.out|apply below_alloc|apply pw_below_drewN|apply below_drew1|refine below_set ?_ GE306.out|refine below_set ?_ GE308.out)|exact HB.out)⟩
     ·
      rw [if_neg c6] at H
      exact absurd H (by simp)
    ·
     rw [if_neg c5] at H
     exact absurd H (by simp)
   ·
    rw [if_neg c4] at H
    have c4b0 : decide (x9_1 < (l1.length : Int)) = false:=decide_eq_false c4
    clear c4;replace H:=Option.bind_eq_some_iff.mp H;obtain ⟨t310,A170,H⟩:=H;replace H : (some ((t310.length : Int) == 0)) = some r:=H;have A17:=Aside0.mk A170;clear A170;obtain rfl:=Option.some.inj H;have hcz18_0 : wr.cell? ⟨gb306,0,none⟩ = some (.slice A0_0 l0_0.length c0_0):=(blk_cell BK306.out 0).trans rfl;have hcz18_1 : wr.cell? ⟨gb306,1,none⟩ = some (.int .i64 a0_1):=(blk_cell BK306.out 1).trans rfl;have hfz18_0:=blk_frozen BK306.out 0;have hfz18_1:=blk_frozen BK306.out 1;go_wp2_with (first|((with_reducible refine gate_callee (f:=172) rfl ?_);refine goesL_ (some 23) rfl rfl Try.func172 (by kernel_rfl) rfl #[.slice A1 l1.length c1,.int .i64 a0_1] rfl (by (try simp only [List.map_toArray,List.map_cons,List.map_nil]);first|done|rfl|(simp only [List.length_drop,List.length_take];rfl)) ?_;(with_reducible refine (impl_fastRepeats.calls k1 _ _ l1 a0_1 t310 _ ?side1 ?side2 A17.out).mono ?_);(case side1 => repeat (first|exact (Kd.C_below HR1.out HB.out)|(with_reducible refine Kd.C_alloc ?_ _)|(with_reducible refine Kd.C_drewN ?_ _)|(with_reducible refine Kd.C_drew ?_)));(case side2 => exact HC1.out);rintro e w19 ⟨v311,rfl,ho0,hb⟩;refine ⟨_,rfl,?_⟩;have n0_:=Aside0.mk (Kd.S_lower ho0 (below_size (by repeat (first|(with_reducible first|exact HB.out|apply below_alloc|apply pw_below_drewN|apply below_drew1|refine below_set ?_ GE306.out)|exact HB.out))));have n1_:=Aside0.mk (blk_below (g:=gb306) (o:=.cells #[.slice A0_0 l0_0.length c0_0,.int .i64 a0_1] 102 (0,0)) (by (with_reducible repeat (first|refine blk_drewN ?_ _|refine blk_drew ?_|refine blk_alloc ?_ _));exact BK306.out) hb);have n2_:=Aside0.mk (below_step (by repeat (first|(with_reducible first|exact HB.out|apply below_alloc|apply pw_below_drewN|apply below_drew1|refine below_set ?_ GE306.out)|exact HB.out)) hb);clear BK306;clear HB;have HO312:=n0_;have BK306:=n1_;have HB:=n2_;clear n0_ n1_ n2_;(try clear hb);(try clear hb2);(try clear hk);(try clear hi);(try clear ho0);obtain ⟨Ao20,co20,eo20⟩:=Kd.S_slice HO312.out;subst eo20))
    go_ret
    exact ⟨by first|rfl|(simp [errW_none,errW_some] <;> rfl)|(simp [*,errW_none,errW_some] <;> rfl),by repeat (first|(with_reducible first|exact HB.out|apply below_alloc|apply pw_below_drewN|apply below_drew1|refine below_set ?_ GE306.out)|exact HB.out)⟩

def impl_whoPlays.l0 : Nat → List (S85) → List Int → List (S102) → Int → Int → Option (List Int)
 | 0,_,_,_,_,_ => none
 | k + 1,x1,x5,x9,x10,x11 => if x11 < x10 then (if 0 ≤ x11 then (if x11 < (x9.length : Int) then ((impl_canPlay.f k ((rd_T102 x9 x11).f0) ((rd_T102 x9 x11).f1) x1).bind fun t318 => (if t318 = true then (if x5.length < 17592186044416 then (impl_whoPlays.l0 k x1 (x5 ++ [x11]) x9 x10 (wrap64 (x11 + 1))) else (none)) else (impl_whoPlays.l0 k x1 x5 x9 x10 (wrap64 (x11 + 1))))) else (none)) else (none)) else (some x5)
def impl_whoPlays.f (k : Nat) (l0 : List (S102)) (l1 : List (S85)) : Option (List Int):=impl_whoPlays.l0 k l1 (([] : List Int)) l0 (l0.length : Int) 0
theorem impl_whoPlays.mono_l : ∀ k,(∀ y0 y1 y2 y3 y4,LeO (impl_whoPlays.l0 k y0 y1 y2 y3 y4) (impl_whoPlays.l0 (k + 1) y0 y1 y2 y3 y4))
 | 0 => fun _ _ _ _ _ r h => by simp [impl_whoPlays.l0] at h
 | k + 1 => by
  have ih0:=impl_whoPlays.mono_l k
  ·
   intro y0 y1 y2 y3 y4
   unfold impl_whoPlays.l0
   repeat' first
   | (with_reducible exact ih0 _ _ _ _ _)
   | (with_reducible exact impl_canPlay.mono _ _ _ _)
   | (with_reducible exact LeO.refl _)
   | (with_reducible exact LeO.none _)
   | (with_reducible refine LeO.ite ?_ ?_)
   | (with_reducible refine LeO.bind ?_ (fun _ => ?_))
   | exact ih0 _ _ _ _ _
   | exact LeO.none _
   | refine LeO.ite ?_ ?_
   | refine LeO.bind ?_ (fun _ => ?_)
theorem impl_whoPlays.mono : ∀ a0 a1 k,LeO (impl_whoPlays.f k a0 a1) (impl_whoPlays.f (k + 1) a0 a1):=by
 intro a0 a1 k
 have ih0:=impl_whoPlays.mono_l k
 unfold impl_whoPlays.f
 repeat' first
   | (with_reducible exact ih0 _ _ _ _ _)
   | (with_reducible exact impl_canPlay.mono _ _ _ _)
   | (with_reducible exact LeO.refl _)
   | (with_reducible exact LeO.none _)
   | (with_reducible refine LeO.ite ?_ ?_)
   | (with_reducible refine LeO.bind ?_ (fun _ => ?_))
   | exact ih0 _ _ _ _ _
   | exact LeO.none _
   | refine LeO.ite ?_ ?_
   | refine LeO.bind ?_ (fun _ => ?_)
set_option maxHeartbeats 8000000 in
set_option maxRecDepth 100000 in
theorem impl_whoPlays.calls (k : Nat) (A0 : Option Addr) (c0 : Nat) (l0 : List (S102)) (A1 : Option Addr) (c1 : Nat) (l1 : List (S85)) (r : List Int) (w : World) (hr0 : Kd.C k102 w A0 l0.length l0) (hc0 : l0.length ≤ c0) (hr1 : Kd.C k85 w A1 l1.length l1) (hc1 : l1.length ≤ c1) (h : impl_whoPlays.f k l0 l1 = some r) :
  Calls Try.prog 96 #[.slice A0 l0.length c0,.slice A1 l1.length c1] w fun e w' => ∃ v0_ : Value,e = .returned (v0_) ∧ Kd.R (Kd.int .i64) 3 w' w.heap.size (fun _ => True) v0_ r ∧ Below w.heap.size w w':=by
 have hu102:=Try.underlying102
 have HR0:=Aside0.mk hr0
 have HC0:=Aside0.mk hc0
 clear hr0 hc0
 have HR1:=Aside0.mk hr1
 have HC1:=Aside0.mk hc1
 clear hr1 hc1
 have HB:=Aside0.mk (Below.refl w.heap.size w)
 have H : (impl_whoPlays.l0 k l1 (([] : List Int)) l0 (l0.length : Int) 0) = some r:=h
 clear h
 obtain ⟨y313,hy313⟩ : ∃ y_ : List Int,y_ = (([] : List Int)):=⟨_,rfl⟩
 replace H : (impl_whoPlays.l0 k l1 y313 l0 (l0.length : Int) 0) = some r:=by first|(rw [hy313];exact H)|(have H2_:=(Option.bind_some _ _).symm.trans H;rw [hy313];exact H2_)|exact (Option.bind_some _ _).symm.trans H|exact H
 have Ny313:=Aside0.mk hy313
 clear hy313
 have H':=Aside0.mk H
 clear H
 go_enter Try.func96,Try.ntmps96
 go_wp2_with (first|((with_reducible refine gate_dst (N:=8) rfl ?_);refine Kd.R_lit (Kd.int .i64) _ 3 ?hg (N:=8) ?hd (xs:=([] : List Int)) (inner:=[]) (ok:=fun _ => True) (okp:=fun _ => True) ?hr ?hp (fun _ hk => hk) trivial (Below.refl _ _) (Nat.le_refl _) (by simp) ?_;(case hd => rfl);(case hg => rfl);(case hr => first|(go_simp;done)|(go_simp;rfl));(case hp => exact (Reps.none _ _));intro v314 w3 ho4 hb hg_ hnew_;clear hg_ hnew_;(first|rw [← Ny313.out] at ho4|(simp only [Int.reduceToNat] at ho4;rw [← Ny313.out] at ho4));have n0_:=Aside0.mk (Kd.R_lower ho4 (below_size (by repeat (first|(with_reducible first|exact HB.out|apply below_alloc|apply pw_below_drewN|apply below_drew1)|exact HB.out))));have n1_:=Aside0.mk (below_step (by repeat (first|(with_reducible first|exact HB.out|apply below_alloc|apply pw_below_drewN|apply below_drew1)|exact HB.out)) hb);clear HB;have HO315:=n0_;have HB:=n1_;clear n0_ n1_;clear hb ho4))
 go_loopg [5,11] k (fun kq v5 v11 w' => ∃ (x5_1 : List Int) (x11_1 : Int),v11 = .int .i64 x11_1 ∧ Aside0 (impl_whoPlays.l0 kq l1 x5_1 l0 (l0.length : Int) x11_1 = some r) ∧ Aside0 (kq ≤ k) ∧ Aside0 (Kd.R (Kd.int .i64) 3 w' w.heap.size (fun _ => True) v5 x5_1) ∧ Aside0 (Below w.heap.size w w'))
 case atStart => exact ⟨(y313),(0),(by first|rfl|(simp;done)|(simp [*];done)),H',⟨Nat.le_refl _⟩,⟨by (with_reducible repeat (first|apply Kd.R_alloc|apply Kd.R_drewN|apply Kd.R_drew));exact HO315.out⟩,⟨by repeat (first|(with_reducible first|exact HB.out|apply below_alloc|apply pw_below_drewN|apply below_drew1)|exact HB.out)⟩⟩
 case round =>
  clear H';try clear c1
  try clear p2
  obtain ⟨x5_1,x11_1,rfl,HA,HK1,HO_5,HB⟩:=hrel
  cases gk with
  | zero => exact absurd HA.out (by simp [impl_whoPlays.l0])
  | succ k1 =>
   have H:=HA.out
   clear HA;simp only [impl_whoPlays.l0] at H;by_cases c5 : x11_1 < (l0.length : Int)
   ·
    rw [if_pos c5] at H
    have c5b0 : decide (x11_1 < (l0.length : Int)) = true:=decide_eq_true c5
    clear c5;by_cases c6 : 0 ≤ x11_1
    ·
     rw [if_pos c6] at H
     have c6b0 : decide (0 ≤ x11_1) = true:=decide_eq_true c6
     clear c6;by_cases c7 : x11_1 < (l0.length : Int)
     ·
      rw [if_pos c7] at H
      have c7b0 : decide (x11_1 < (l0.length : Int)) = true:=decide_eq_true c7
      clear c7;replace H:=Option.bind_eq_some_iff.mp H;obtain ⟨t318,A80,H⟩:=H;replace H : (if t318 = true then (if x5_1.length < 17592186044416 then (impl_whoPlays.l0 k1 l1 (x5_1 ++ [x11_1]) l0 (l0.length : Int) (wrap64 (x11_1 + 1))) else (none)) else (impl_whoPlays.l0 k1 l1 x5_1 l0 (l0.length : Int) (wrap64 (x11_1 + 1)))) = some r:=H;have A8:=Aside0.mk A80;clear A80;by_cases c9 : t318 = true
      ·
       subst c9;have H1 : (if x5_1.length < 17592186044416 then (impl_whoPlays.l0 k1 l1 (x5_1 ++ [x11_1]) l0 (l0.length : Int) (wrap64 (x11_1 + 1))) else (none)) = some r:=by rw [if_pos rfl] at H;exact H
       clear H;have H:=H1;clear H1;by_cases c10 : x5_1.length < 17592186044416
       ·
        rw [if_pos c10] at H
        have LMc10:=Aside0.mk c10;clear c10;obtain ⟨y319,hy319⟩ : ∃ y_ : List Int,y_ = (x5_1 ++ [x11_1]):=⟨_,rfl⟩;replace H : (impl_whoPlays.l0 k1 l1 y319 l0 (l0.length : Int) (wrap64 (x11_1 + 1))) = some r:=by first|(rw [hy319];exact H)|(have H2_:=(Option.bind_some _ _).symm.trans H;rw [hy319];exact H2_)|exact (Option.bind_some _ _).symm.trans H|exact H
        have Ny319:=Aside0.mk hy319;clear hy319;have H':=Aside0.mk H;clear H;have p316 : 0 ≤ (x11_1 : Int):=of_decide_eq_true (by assumption)
        have q316 : x11_1 < (l0.length : Int):=of_decide_eq_true (by assumption)
        obtain ⟨ad316,A316_0,c316_0,e316,hx316_0,hx316_1,hl316_0,hi316_0⟩:=at_T102 HR0.out x11_1 p316 q316
        cases e316
        replace hx316_0:=(HB.out.cell (World.block_lt_of_cell? w _ hx316_0)).trans hx316_0
        replace hx316_1:=(HB.out.cell (World.block_lt_of_cell? w _ hx316_1)).trans hx316_1
        have HR316_0:=Aside0.mk hi316_0;have HC316_0:=Aside0.mk hl316_0;clear hi316_0 hl316_0;replace p316:=eq_true p316;replace q316:=eq_true q316;go_wp2_with (first|((with_reducible refine gate_dst (N:=7) rfl ?_);refine box_event ?hg (N:=7) ?hd (cs:=#[.slice none 0 0,.int .i64 0]) (t:=102) ?hr ?_;(case hd => rfl);(case hg => rfl);(case hr => first|(go_simp;done)|(go_simp;rfl));intro gb317 hg w11 hbox hb;have n0_:=Aside0.mk (Kd.R_below (by (with_reducible repeat (first|apply Kd.R_alloc|apply Kd.R_drewN|apply Kd.R_drew));exact HO_5.out) hb);have n1_:=Aside0.mk (below_step (by repeat (first|(with_reducible first|exact HB.out|apply below_alloc|apply pw_below_drewN|apply below_drew1)|exact HB.out)) hb);have n2_:=Aside0.mk (hbox);have n3_:=Aside0.mk ((by rw [hg];exact (below_size (by repeat (first|(with_reducible first|exact HB.out|apply below_alloc|apply pw_below_drewN|apply below_drew1)|exact HB.out))) : w.heap.size ≤ gb317));have n4_:=Aside0.mk ((by rw [hg];exact (below_size (by repeat (first|(with_reducible first|exact HB.out|apply below_alloc|apply pw_below_drewN|apply below_drew1)|exact HB.out))) : w.heap.size ≤ gb317));clear HO_5;clear HB;have HO_5:=n0_;have HB:=n1_;have BK317:=n2_;have GW317:=n3_;have GE317:=n4_;clear n0_ n1_ n2_ n3_ n4_;clear hb hbox hg;have hcz12_0 : w11.cell? ⟨gb317,0,none⟩ = some (.slice none 0 0):=(blk_cell BK317.out 0).trans rfl;have hcz12_1 : w11.cell? ⟨gb317,1,none⟩ = some (.int .i64 0):=(blk_cell BK317.out 1).trans rfl;have hfz12_0:=blk_frozen BK317.out 0;have hfz12_1:=blk_frozen BK317.out 1)|((with_reducible refine gate_callee (f:=155) rfl ?_);refine goesL_ (some 18) rfl rfl Try.func155 (by kernel_rfl) rfl #[.agg #[.slice A316_0 ((rd_T102 l0 x11_1).f0).length c316_0,.int .i64 ((rd_T102 l0 x11_1).f1)],.slice A1 l1.length c1] rfl (by (try simp only [List.map_toArray,List.map_cons,List.map_nil]);first|done|rfl|(simp only [List.length_drop,List.length_take];rfl)) ?_;(with_reducible refine (impl_canPlay.calls k1 _ _ ((rd_T102 l0 x11_1).f0) ((rd_T102 l0 x11_1).f1) _ _ l1 true _ ?side1 ?side2 ?side3 ?side4 A8.out).mono ?_);(case side1 => exact Kd.C_below HR316_0.out (by repeat (first|(with_reducible first|exact HB.out|apply below_alloc|apply pw_below_drewN|apply below_drew1|refine below_set ?_ GE317.out)|exact HB.out)));(case side2 => exact HC316_0.out);(case side3 => exact Kd.C_below HR1.out (by repeat (first|(with_reducible first|exact HB.out|apply below_alloc|apply pw_below_drewN|apply below_drew1|refine below_set ?_ GE317.out)|exact HB.out)));(case side4 => exact HC1.out);rintro e w13 ⟨rfl,hb⟩;refine ⟨_,rfl,?_⟩;have n0_:=Aside0.mk (Kd.R_below (by (with_reducible repeat (first|apply Kd.R_alloc|apply Kd.R_drewN|apply Kd.R_drew));exact (Kd.R_mono (Kd.R_far (p:=⟨gb317,1,none⟩) (Kd.R_far (p:=⟨gb317,0,none⟩) (Kd.R_types HO_5.out BK317.out (by decide)) (fun _ hk => hk.2) (.slice A316_0 ((rd_T102 l0 x11_1).f0).length c316_0)) (fun _ hk => hk.2) (.int .i64 ((rd_T102 l0 x11_1).f1))) (fun _ h_ => h_.1))) hb);have n1_:=Aside0.mk (blk_below (g:=gb317) (o:=.cells #[.slice A316_0 ((rd_T102 l0 x11_1).f0).length c316_0,.int .i64 ((rd_T102 l0 x11_1).f1)] 102 (0,0)) (by (with_reducible repeat (first|refine blk_drewN ?_ _|refine blk_drew ?_|refine blk_alloc ?_ _));refine blk_put (cs:=#[.slice A316_0 ((rd_T102 l0 x11_1).f0).length c316_0,.int .i64 0]) ?_ 1 _ rfl;(with_reducible repeat (first|refine blk_drewN ?_ _|refine blk_drew ?_|refine blk_alloc ?_ _));refine blk_put (cs:=#[.slice none 0 0,.int .i64 0]) ?_ 0 _ rfl;(with_reducible repeat (first|refine blk_drewN ?_ _|refine blk_drew ?_|refine blk_alloc ?_ _));exact BK317.out) hb);have n2_:=Aside0.mk (below_step (by repeat (first|(with_reducible first|exact HB.out|apply below_alloc|apply pw_below_drewN|apply below_drew1|refine below_set ?_ GE317.out)|exact HB.out)) hb);clear HO_5;clear BK317;clear HB;have HO_5:=n0_;have BK317:=n1_;have HB:=n2_;clear n0_ n1_ n2_;(try clear hb);(try clear hb2);(try clear hk);(try clear hi))|((with_reducible refine gate_builtin (b:=.append) (xs:=#[.tmp 19,.tmp 21]) rfl ?_);at_builtin;refine Kd.R_append (Kd.int .i64) (w0:=w) w.heap.size rfl (.tmp 19) (.tmp 21) 24 3 (.int .i64 0) 8 rfl Try.underlying24 info3 rfl (by decide) (by omega) u5 x5_1 x11_1 [.int .i64 x11_1] (fun _ => True) (fun _ => False) rfl rfl ?aP (fun _ hk => hk.elim) ?aF ?aO ?aB ?aS ?aL ?_;(case aP => exact rfl);(case aB => exact (by repeat (first|(with_reducible first|exact HB.out|apply below_alloc|apply pw_below_drewN|apply below_drew1|refine below_set ?_ GE317.out)|exact HB.out)));(case aF => exact (fun _ _ => trivial));(case aO => exact (by (with_reducible repeat (first|apply Kd.R_alloc|apply Kd.R_drewN|apply Kd.R_drew));exact HO_5.out));(case aS => exact (below_size (by repeat (first|(with_reducible first|exact HB.out|apply below_alloc|apply pw_below_drewN|apply below_drew1|refine below_set ?_ GE317.out)|exact HB.out))));(case aL => have:=LMc10.out;omega);intro v320 w14 ho hb hg hat;rw [← Ny319.out] at ho;have n0_:=Aside0.mk (blk_grown (g:=gb317) (o:=.cells #[.slice A316_0 ((rd_T102 l0 x11_1).f0).length c316_0,.int .i64 ((rd_T102 l0 x11_1).f1)] 102 (0,0)) (by (with_reducible repeat (first|refine blk_drewN ?_ _|refine blk_drew ?_|refine blk_alloc ?_ _));exact BK317.out) hg (Kd.R_ne HO_5.out BK317.out (by decide)));have n1_:=Aside0.mk (hb);have n2_:=Aside0.mk (ho);clear BK317;clear HB;clear HO_5;have BK317:=n0_;have HB:=n1_;have HO321:=n2_;clear n0_ n1_ n2_;clear ho hb hg hat))
        go_roundg k1
        case measure => have:=HK1.out;omega
        case rel => exact ⟨(y319),(wrap64 (x11_1 + 1)),(by first|rfl|(simp;done)|(simp [*];done)),H',⟨by have:=HK1.out;omega⟩,⟨by (with_reducible repeat (first|apply Kd.R_alloc|apply Kd.R_drewN|apply Kd.R_drew));exact HO321.out⟩,⟨by repeat (first|(with_reducible first|exact HB.out|apply below_alloc|apply pw_below_drewN|apply below_drew1|refine below_set ?_ GE317.out)|exact HB.out)⟩⟩
       ·
        rw [if_neg c10] at H
        exact absurd H (by simp)
      ·
       replace c9:=Bool.eq_false_iff.mpr c9
       subst c9;have H1 : (impl_whoPlays.l0 k1 l1 x5_1 l0 (l0.length : Int) (wrap64 (x11_1 + 1))) = some r:=by rw [if_neg (show ¬ (false = true) by decide)] at H;exact H
       clear H;have H:=H1;clear H1;have H':=Aside0.mk H;clear H;have p316 : 0 ≤ (x11_1 : Int):=of_decide_eq_true (by assumption)
       have q316 : x11_1 < (l0.length : Int):=of_decide_eq_true (by assumption)
       obtain ⟨ad316,A316_0,c316_0,e316,hx316_0,hx316_1,hl316_0,hi316_0⟩:=at_T102 HR0.out x11_1 p316 q316
       cases e316
       replace hx316_0:=(HB.out.cell (World.block_lt_of_cell? w _ hx316_0)).trans hx316_0
       replace hx316_1:=(HB.out.cell (World.block_lt_of_cell? w _ hx316_1)).trans hx316_1
       have HR316_0:=Aside0.mk hi316_0;have HC316_0:=Aside0.mk hl316_0;clear hi316_0 hl316_0;replace p316:=eq_true p316;replace q316:=eq_true q316;go_wp2_with (first|((with_reducible refine gate_dst (N:=7) rfl ?_);refine box_event ?hg (N:=7) ?hd (cs:=#[.slice none 0 0,.int .i64 0]) (t:=102) ?hr ?_;(case hd => rfl);(case hg => rfl);(case hr => first|(go_simp;done)|(go_simp;rfl));intro gb317 hg w15 hbox hb;have n0_:=Aside0.mk (Kd.R_below (by (with_reducible repeat (first|apply Kd.R_alloc|apply Kd.R_drewN|apply Kd.R_drew));exact HO_5.out) hb);have n1_:=Aside0.mk (below_step (by repeat (first|(with_reducible first|exact HB.out|apply below_alloc|apply pw_below_drewN|apply below_drew1)|exact HB.out)) hb);have n2_:=Aside0.mk (hbox);have n3_:=Aside0.mk ((by rw [hg];exact (below_size (by repeat (first|(with_reducible first|exact HB.out|apply below_alloc|apply pw_below_drewN|apply below_drew1)|exact HB.out))) : w.heap.size ≤ gb317));have n4_:=Aside0.mk ((by rw [hg];exact (below_size (by repeat (first|(with_reducible first|exact HB.out|apply below_alloc|apply pw_below_drewN|apply below_drew1)|exact HB.out))) : w.heap.size ≤ gb317));clear HO_5;clear HB;have HO_5:=n0_;have HB:=n1_;have BK317:=n2_;have GW317:=n3_;have GE317:=n4_;clear n0_ n1_ n2_ n3_ n4_;clear hb hbox hg;have hcz16_0 : w15.cell? ⟨gb317,0,none⟩ = some (.slice none 0 0):=(blk_cell BK317.out 0).trans rfl;have hcz16_1 : w15.cell? ⟨gb317,1,none⟩ = some (.int .i64 0):=(blk_cell BK317.out 1).trans rfl;have hfz16_0:=blk_frozen BK317.out 0;have hfz16_1:=blk_frozen BK317.out 1)|((with_reducible refine gate_callee (f:=155) rfl ?_);refine goesL_ (some 18) rfl rfl Try.func155 (by kernel_rfl) rfl #[.agg #[.slice A316_0 ((rd_T102 l0 x11_1).f0).length c316_0,.int .i64 ((rd_T102 l0 x11_1).f1)],.slice A1 l1.length c1] rfl (by (try simp only [List.map_toArray,List.map_cons,List.map_nil]);first|done|rfl|(simp only [List.length_drop,List.length_take];rfl)) ?_;(with_reducible refine (impl_canPlay.calls k1 _ _ ((rd_T102 l0 x11_1).f0) ((rd_T102 l0 x11_1).f1) _ _ l1 false _ ?side1 ?side2 ?side3 ?side4 A8.out).mono ?_);(case side1 => exact Kd.C_below HR316_0.out (by repeat (first|(with_reducible first|exact HB.out|apply below_alloc|apply pw_below_drewN|apply below_drew1|refine below_set ?_ GE317.out)|exact HB.out)));(case side2 => exact HC316_0.out);(case side3 => exact Kd.C_below HR1.out (by repeat (first|(with_reducible first|exact HB.out|apply below_alloc|apply pw_below_drewN|apply below_drew1|refine below_set ?_ GE317.out)|exact HB.out)));(case side4 => exact HC1.out);rintro e w17 ⟨rfl,hb⟩;refine ⟨_,rfl,?_⟩;have n0_:=Aside0.mk (Kd.R_below (by (with_reducible repeat (first|apply Kd.R_alloc|apply Kd.R_drewN|apply Kd.R_drew));exact (Kd.R_mono (Kd.R_far (p:=⟨gb317,1,none⟩) (Kd.R_far (p:=⟨gb317,0,none⟩) (Kd.R_types HO_5.out BK317.out (by decide)) (fun _ hk => hk.2) (.slice A316_0 ((rd_T102 l0 x11_1).f0).length c316_0)) (fun _ hk => hk.2) (.int .i64 ((rd_T102 l0 x11_1).f1))) (fun _ h_ => h_.1))) hb);have n1_:=Aside0.mk (blk_below (g:=gb317) (o:=.cells #[.slice A316_0 ((rd_T102 l0 x11_1).f0).length c316_0,.int .i64 ((rd_T102 l0 x11_1).f1)] 102 (0,0)) (by (with_reducible repeat (first|refine blk_drewN ?_ _|refine blk_drew ?_|refine blk_alloc ?_ _));refine blk_put (cs:=#[.slice A316_0 ((rd_T102 l0 x11_1).f0).length c316_0,.int .i64 0]) ?_ 1 _ rfl;(with_reducible repeat (first|refine blk_drewN ?_ _|refine blk_drew ?_|refine blk_alloc ?_ _));refine blk_put (cs:=#[.slice none 0 0,.int .i64 0]) ?_ 0 _ rfl;(with_reducible repeat (first|refine blk_drewN ?_ _|refine blk_drew ?_|refine blk_alloc ?_ _));exact BK317.out) hb);have n2_:=Aside0.mk (below_step (by repeat (first|(with_reducible first|exact HB.out|apply below_alloc|apply pw_below_drewN|apply below_drew1|refine below_set ?_ GE317.out)|exact HB.out)) hb);clear HO_5;clear BK317;clear HB;have HO_5:=n0_;have BK317:=n1_;have HB:=n2_;clear n0_ n1_ n2_;(try clear hb);(try clear hb2);(try clear hk);(try clear hi)))
       go_roundg k1
       case measure => have:=HK1.out;omega
       case rel => exact ⟨(x5_1),(wrap64 (x11_1 + 1)),(by first|rfl|(simp;done)|(simp [*];done)),H',⟨by have:=HK1.out;omega⟩,⟨by (with_reducible repeat (first|apply Kd.R_alloc|apply Kd.R_drewN|apply Kd.R_drew));exact HO_5.out⟩,⟨by repeat (first|(with_reducible first|exact HB.out|apply below_alloc|apply pw_below_drewN|apply below_drew1|refine below_set ?_ GE317.out)|exact HB.out)⟩⟩
     ·
      rw [if_neg c7] at H
      exact absurd H (by simp)
    ·
     rw [if_neg c6] at H
     exact absurd H (by simp)
   ·
    rw [if_neg c5] at H
    have c5b0 : decide (x11_1 < (l0.length : Int)) = false:=decide_eq_false c5
    clear c5;obtain rfl:=Option.some.inj H;go_wp2;go_ret;exact ⟨_,by first|rfl|(simp [errW_none,errW_some] <;> rfl)|(simp [*,errW_none,errW_some] <;> rfl),by (with_reducible repeat (first|apply Kd.R_alloc|apply Kd.R_drewN|apply Kd.R_drew));exact HO_5.out,by repeat (first|(with_reducible first|exact HB.out|apply below_alloc|apply pw_below_drewN|apply below_drew1)|exact HB.out)⟩

def impl_WhoPlays.f (k : Nat) (l0 : List (S102)) (l1 : List (S85)) : Option (List Int × Bool):=(impl_isClass.f k l0).bind fun t322 => (if t322 = true then ((impl_IsScore.f k l1).bind fun t323 => (if t323 = true then ((impl_whoPlays.f k l0 l1).bind fun t324 => (some (t324,true))) else (some (([] : List Int),false)))) else (some (([] : List Int),false)))
theorem impl_WhoPlays.mono : ∀ a0 a1 k,LeO (impl_WhoPlays.f k a0 a1) (impl_WhoPlays.f (k + 1) a0 a1):=by
 intro a0 a1 k
 unfold impl_WhoPlays.f
 repeat' first
   | (with_reducible exact impl_IsScore.mono _ _)
   | (with_reducible exact impl_isClass.mono _ _)
   | (with_reducible exact impl_whoPlays.mono _ _ _)
   | (with_reducible exact LeO.refl _)
   | (with_reducible exact LeO.none _)
   | (with_reducible refine LeO.ite ?_ ?_)
   | (with_reducible refine LeO.bind ?_ (fun _ => ?_))
   | exact LeO.none _
   | refine LeO.ite ?_ ?_
   | refine LeO.bind ?_ (fun _ => ?_)
set_option maxHeartbeats 8000000 in
set_option maxRecDepth 100000 in
theorem impl_WhoPlays.calls (k : Nat) (A0 : Option Addr) (c0 : Nat) (l0 : List (S102)) (A1 : Option Addr) (c1 : Nat) (l1 : List (S85)) (r1 : List Int) (r2 : Bool) (w : World) (hr0 : Kd.C k102 w A0 l0.length l0) (hc0 : l0.length ≤ c0) (hr1 : Kd.C k85 w A1 l1.length l1) (hc1 : l1.length ≤ c1) (h : impl_WhoPlays.f k l0 l1 = some (r1,r2)) :
  Calls Try.prog 58 #[.slice A0 l0.length c0,.slice A1 l1.length c1] w fun e w' => ∃ v0_ : Value,e = .returned (.tuple #[v0_,.bool r2]) ∧ Kd.R (Kd.int .i64) 3 w' w.heap.size (fun _ => True) v0_ r1 ∧ Below w.heap.size w w':=by
 have HR0:=Aside0.mk hr0
 have HC0:=Aside0.mk hc0
 clear hr0 hc0
 have HR1:=Aside0.mk hr1
 have HC1:=Aside0.mk hc1
 clear hr1 hc1
 have HB:=Aside0.mk (Below.refl w.heap.size w)
 have H : ((impl_isClass.f k l0).bind fun t322 => (if t322 = true then ((impl_IsScore.f k l1).bind fun t323 => (if t323 = true then ((impl_whoPlays.f k l0 l1).bind fun t324 => (some (t324,true))) else (some (([] : List Int),false)))) else (some (([] : List Int),false)))) = some (r1,r2):=h
 clear h
 replace H:=Option.bind_eq_some_iff.mp H
 obtain ⟨t322,A30,H⟩:=H
 replace H : (if t322 = true then ((impl_IsScore.f k l1).bind fun t323 => (if t323 = true then ((impl_whoPlays.f k l0 l1).bind fun t324 => (some (t324,true))) else (some (([] : List Int),false)))) else (some (([] : List Int),false))) = some (r1,r2):=H
 have A3:=Aside0.mk A30
 clear A30
 by_cases c4 : t322 = true
 ·
  subst c4;have H1 : ((impl_IsScore.f k l1).bind fun t323 => (if t323 = true then ((impl_whoPlays.f k l0 l1).bind fun t324 => (some (t324,true))) else (some (([] : List Int),false)))) = some (r1,r2):=by rw [if_pos rfl] at H;exact H
  clear H;have H:=H1;clear H1;replace H:=Option.bind_eq_some_iff.mp H;obtain ⟨t323,A50,H⟩:=H;replace H : (if t323 = true then ((impl_whoPlays.f k l0 l1).bind fun t324 => (some (t324,true))) else (some (([] : List Int),false))) = some (r1,r2):=H
  have A5:=Aside0.mk A50;clear A50;by_cases c6 : t323 = true
  ·
   subst c6;have H1 : ((impl_whoPlays.f k l0 l1).bind fun t324 => (some (t324,true))) = some (r1,r2):=by rw [if_pos rfl] at H;exact H
   clear H;have H:=H1;clear H1;replace H:=Option.bind_eq_some_iff.mp H;obtain ⟨t324,A70,H⟩:=H;replace H : (some (t324,true)) = some (r1,r2):=H;have A7:=Aside0.mk A70;clear A70;simp only [Option.some.injEq,Prod.mk.injEq] at H;obtain ⟨rfl,rfl⟩:=H;go_enter Try.func58,Try.ntmps58;go_wp2_with (first|((with_reducible refine gate_callee (f:=92) rfl ?_);refine goesL_ (some 7) rfl rfl Try.func92 (by kernel_rfl) rfl #[.slice A0 l0.length c0] rfl (by (try simp only [List.map_toArray,List.map_cons,List.map_nil]);first|done|rfl|(simp only [List.length_drop,List.length_take];rfl)) ?_;(with_reducible refine (impl_isClass.calls k _ _ l0 true _ ?side1 ?side2 A3.out).mono ?_);(case side1 => repeat (first|exact HR0.out|(with_reducible refine Kd.C_alloc ?_ _)|(with_reducible refine Kd.C_drewN ?_ _)|(with_reducible refine Kd.C_drew ?_)));(case side2 => exact HC0.out);rintro e w8 ⟨rfl,hb⟩;refine ⟨_,rfl,?_⟩;have n0_:=Aside0.mk (below_step (by repeat (first|(with_reducible first|exact HB.out|apply below_alloc|apply pw_below_drewN|apply below_drew1)|exact HB.out)) hb);clear HB;have HB:=n0_;clear n0_;(try clear hb);(try clear hb2);(try clear hk);(try clear hi))|(go_at_call 74;(with_reducible refine (impl_IsScore.calls k _ _ l1 true _ ?side1 ?side2 A5.out).mono ?_);(case side1 => repeat (first|exact (Kd.C_below HR1.out HB.out)|(with_reducible refine Kd.C_alloc ?_ _)|(with_reducible refine Kd.C_drewN ?_ _)|(with_reducible refine Kd.C_drew ?_)));(case side2 => exact HC1.out);rintro e w9 ⟨rfl,hb⟩;have n0_:=Aside0.mk (below_step (by repeat (first|(with_reducible first|exact HB.out|apply below_alloc|apply pw_below_drewN|apply below_drew1)|exact HB.out)) hb);clear HB;have HB:=n0_;clear n0_;(try clear hb);(try clear hb2);(try clear hk);(try clear hi))|((with_reducible refine gate_callee (f:=96) rfl ?_);refine goesL_ (some 16) rfl rfl Try.func96 (by kernel_rfl) rfl #[.slice A0 l0.length c0,.slice A1 l1.length c1] rfl (by (try simp only [List.map_toArray,List.map_cons,List.map_nil]);first|done|rfl|(simp only [List.length_drop,List.length_take];rfl)) ?_;(with_reducible refine (impl_whoPlays.calls k _ _ l0 _ _ l1 t324 _ ?side1 ?side2 ?side3 ?side4 A7.out).mono ?_);(case side1 => repeat (first|exact (Kd.C_below HR0.out HB.out)|(with_reducible refine Kd.C_alloc ?_ _)|(with_reducible refine Kd.C_drewN ?_ _)|(with_reducible refine Kd.C_drew ?_)));(case side2 => exact HC0.out);(case side3 => repeat (first|exact (Kd.C_below HR1.out HB.out)|(with_reducible refine Kd.C_alloc ?_ _)|(with_reducible refine Kd.C_drewN ?_ _)|(with_reducible refine Kd.C_drew ?_)));(case side4 => exact HC1.out);rintro e w10 ⟨v325,rfl,ho0,hb⟩;refine ⟨_,rfl,?_⟩;have n0_:=Aside0.mk (Kd.R_lower ho0 (below_size (by repeat (first|(with_reducible first|exact HB.out|apply below_alloc|apply pw_below_drewN|apply below_drew1)|exact HB.out))));have n1_:=Aside0.mk (below_step (by repeat (first|(with_reducible first|exact HB.out|apply below_alloc|apply pw_below_drewN|apply below_drew1)|exact HB.out)) hb);clear HB;have HO326:=n0_;have HB:=n1_;clear n0_ n1_;(try clear hb);(try clear hb2);(try clear hk);(try clear hi);(try clear ho0)))
   go_ret2
   exact ⟨_,by first|rfl|(simp [errW_none,errW_some] <;> rfl)|(simp [*,errW_none,errW_some] <;> rfl),by (with_reducible repeat (first|apply Kd.R_alloc|apply Kd.R_drewN|apply Kd.R_drew));exact HO326.out,by repeat (first|(with_reducible first|exact HB.out|apply below_alloc|apply pw_below_drewN|apply below_drew1)|exact HB.out)⟩
  ·
   replace c6:=Bool.eq_false_iff.mpr c6
   subst c6;have H1 : (some (([] : List Int),false)) = some (r1,r2):=by rw [if_neg (show ¬ (false = true) by decide)] at H;exact H
   clear H;have H:=H1;clear H1;simp only [Option.some.injEq,Prod.mk.injEq] at H;obtain ⟨rfl,rfl⟩:=H;go_enter Try.func58,Try.ntmps58;go_wp2_with (first|((with_reducible refine gate_callee (f:=92) rfl ?_);refine goesL_ (some 7) rfl rfl Try.func92 (by kernel_rfl) rfl #[.slice A0 l0.length c0] rfl (by (try simp only [List.map_toArray,List.map_cons,List.map_nil]);first|done|rfl|(simp only [List.length_drop,List.length_take];rfl)) ?_;(with_reducible refine (impl_isClass.calls k _ _ l0 true _ ?side1 ?side2 A3.out).mono ?_);(case side1 => repeat (first|exact HR0.out|(with_reducible refine Kd.C_alloc ?_ _)|(with_reducible refine Kd.C_drewN ?_ _)|(with_reducible refine Kd.C_drew ?_)));(case side2 => exact HC0.out);rintro e w11 ⟨rfl,hb⟩;refine ⟨_,rfl,?_⟩;have n0_:=Aside0.mk (below_step (by repeat (first|(with_reducible first|exact HB.out|apply below_alloc|apply pw_below_drewN|apply below_drew1)|exact HB.out)) hb);clear HB;have HB:=n0_;clear n0_;(try clear hb);(try clear hb2);(try clear hk);(try clear hi))|(go_at_call 74;(with_reducible refine (impl_IsScore.calls k _ _ l1 false _ ?side1 ?side2 A5.out).mono ?_);(case side1 => repeat (first|exact (Kd.C_below HR1.out HB.out)|(with_reducible refine Kd.C_alloc ?_ _)|(with_reducible refine Kd.C_drewN ?_ _)|(with_reducible refine Kd.C_drew ?_)));(case side2 => exact HC1.out);rintro e w12 ⟨rfl,hb⟩;have n0_:=Aside0.mk (below_step (by repeat (first|(with_reducible first|exact HB.out|apply below_alloc|apply pw_below_drewN|apply below_drew1)|exact HB.out)) hb);clear HB;have HB:=n0_;clear n0_;(try clear hb);(try clear hb2);(try clear hk);(try clear hi)))
   go_ret2
   exact ⟨_,by first|rfl|(simp [errW_none,errW_some] <;> rfl)|(simp [*,errW_none,errW_some] <;> rfl),by first|exact Kd.R_nil _ _ _ _ _|exact Kd.N_nil _ _ _ _ _|exact Kd.V_nil _ _ _ _ _|exact Kd.Q_nil _ _ _ _ _|exact Kd.S_nil _ _ _ _ _,by repeat (first|(with_reducible first|exact HB.out|apply below_alloc|apply pw_below_drewN|apply below_drew1)|exact HB.out)⟩
 ·
  replace c4:=Bool.eq_false_iff.mpr c4
  subst c4;have H1 : (some (([] : List Int),false)) = some (r1,r2):=by rw [if_neg (show ¬ (false = true) by decide)] at H;exact H
  clear H;have H:=H1;clear H1;simp only [Option.some.injEq,Prod.mk.injEq] at H;obtain ⟨rfl,rfl⟩:=H;go_enter Try.func58,Try.ntmps58;go_wp2_with (first|((with_reducible refine gate_callee (f:=92) rfl ?_);refine goesL_ (some 7) rfl rfl Try.func92 (by kernel_rfl) rfl #[.slice A0 l0.length c0] rfl (by (try simp only [List.map_toArray,List.map_cons,List.map_nil]);first|done|rfl|(simp only [List.length_drop,List.length_take];rfl)) ?_;(with_reducible refine (impl_isClass.calls k _ _ l0 false _ ?side1 ?side2 A3.out).mono ?_);(case side1 => repeat (first|exact HR0.out|(with_reducible refine Kd.C_alloc ?_ _)|(with_reducible refine Kd.C_drewN ?_ _)|(with_reducible refine Kd.C_drew ?_)));(case side2 => exact HC0.out);rintro e w13 ⟨rfl,hb⟩;refine ⟨_,rfl,?_⟩;have n0_:=Aside0.mk (below_step (by repeat (first|(with_reducible first|exact HB.out|apply below_alloc|apply pw_below_drewN|apply below_drew1)|exact HB.out)) hb);clear HB;have HB:=n0_;clear n0_;(try clear hb);(try clear hb2);(try clear hk);(try clear hi)))
  go_ret2
  exact ⟨_,by first|rfl|(simp [errW_none,errW_some] <;> rfl)|(simp [*,errW_none,errW_some] <;> rfl),by first|exact Kd.R_nil _ _ _ _ _|exact Kd.N_nil _ _ _ _ _|exact Kd.V_nil _ _ _ _ _|exact Kd.Q_nil _ _ _ _ _|exact Kd.S_nil _ _ _ _ _,by repeat (first|(with_reducible first|exact HB.out|apply below_alloc|apply pw_below_drewN|apply below_drew1)|exact HB.out)⟩

/-! ### laws_markInstrumentS: function 59 (an own contract) -/
def laws_markInstrumentS.g (k : Nat) : List S102 → Int → Option Int
  | [], m => some m
  | x :: xs, m => (laws_markIntS.f k x.f0 m).bind fun b => laws_markInstrumentS.g k xs (wrap64 (b.1 + 1))
def laws_markInstrumentS.f (k : Nat) (l0 : List S102) (a1 : Int) : Option Int := laws_markInstrumentS.g k l0 a1
theorem laws_markInstrumentS.mono_g : ∀ (xs : List S102) (m : Int) (k : Nat), LeO (laws_markInstrumentS.g k xs m) (laws_markInstrumentS.g (k + 1) xs m)
  | [], m, k => LeO.refl _
  | x :: xs, m, k => LeO.bind (laws_markIntS.mono _ _ _) (fun _ => laws_markInstrumentS.mono_g xs _ k)
theorem laws_markInstrumentS.mono : ∀ a0 a1 k, LeO (laws_markInstrumentS.f k a0 a1) (laws_markInstrumentS.f (k + 1) a0 a1) := fun a0 a1 k => laws_markInstrumentS.mono_g a0 a1 k
theorem laws_markInstrumentS.drop_cons (ys : List S102) (x5 : Int) (h0 : 0 ≤ x5) (h : x5 < (ys.length : Int)) : ys.drop x5.toNat = ys.getD x5.toNat z102 :: ys.drop (x5.toNat + 1) := by
  have hl : x5.toNat < ys.length := by omega
  rw [List.drop_eq_getElem_cons hl, List.getD_eq_getElem?_getD, List.getElem?_eq_getElem hl]
  rfl
set_option maxHeartbeats 8000000 in
set_option maxRecDepth 100000 in
theorem laws_markInstrumentS.calls (k : Nat) (P0_ : Nat → Prop) (u9000_ : Value) (l0 : List S102) (a1 r1 : Int) (w0 w : World) (hB : Below w0.heap.size w0 w) (ho0 : Kd.S k102 102 w w0.heap.size P0_ u9000_ l0) (h : laws_markInstrumentS.f k l0 a1 = some r1) :
    Calls Try.prog 59 #[u9000_, .int .i64 a1] w fun e w' => e = .returned (.int .i64 r1) ∧ Below w0.heap.size w0 w' ∧ Kept w w' (fun k_ => P0_ k_) := by
  have hu102 := Try.underlying102
  obtain ⟨A, cA, eA⟩ := Kd.S_slice ho0
  subst eA
  have HO0 := Aside0.mk ho0
  have HK := Aside0.mk (Kept.refl w (fun k_ => P0_ k_))
  have HB := Aside0.mk hB
  clear hB ho0
  unfold laws_markInstrumentS.f at h
  have H' := Aside0.mk h
  clear h
  go_enter Try.func59, Try.ntmps59
  go_wp2
  go_loopg [1, 5] l0.length (fun kq v1 v5 w' => ∃ (ys : List S102) (x1 x5 : Int), v1 = .int .i64 x1 ∧ v5 = .int .i64 x5 ∧ Aside0 (laws_markInstrumentS.g k (ys.drop x5.toNat) x1 = some r1) ∧ Aside0 (0 ≤ x5 ∧ x5.toNat + kq = l0.length ∧ ys.length = l0.length) ∧ Aside0 (Kd.S k102 102 w' w0.heap.size P0_ (.slice A l0.length cA) ys) ∧ Aside0 (Kept w w' (fun k_ => P0_ k_)) ∧ Aside0 (Below w0.heap.size w0 w'))
  case atStart => exact ⟨l0, a1, 0, rfl, rfl, H', ⟨⟨by omega, by simp, rfl⟩⟩, ⟨by (with_reducible repeat (first | apply Kd.S_alloc | apply Kd.S_drewN | apply Kd.S_drew)); exact HO0.out⟩, ⟨by repeat (first | (with_reducible first | exact HK.out | apply Kept.alloc | apply Kept.drewN | apply Kept.drew) | exact HK.out)⟩, ⟨by repeat (first | (with_reducible first | exact HB.out | apply below_alloc | apply pw_below_drewN | apply below_drew1) | exact HB.out)⟩⟩
  case round =>
    clear H' HO0 HK HB
    obtain ⟨ys, x1, x5, rfl, rfl, HA, HX, HO, HK, HB⟩ := hrel
    cases gk with
    | zero =>
      have c0 : decide (x5 < (l0.length : Int)) = false := by have := HX.out; rw [decide_eq_false]; omega
      have e : x1 = r1 := by
        have h := HA.out
        rw [List.drop_eq_nil_of_le (by have := HX.out; omega)] at h
        exact Option.some.inj h
      subst e
      go_wp2
      go_ret
      exact ⟨by first | rfl | (simp; done) | (simp [*]; done), by repeat (first | (with_reducible first | exact HB.out | apply below_alloc | apply pw_below_drewN | apply below_drew1) | exact HB.out), by repeat (first | (with_reducible first | exact HK.out | apply Kept.alloc | apply Kept.drewN | apply Kept.drew) | exact HK.out)⟩
    | succ k1 =>
      have c0 : decide (x5 < (l0.length : Int)) = true := by have := HX.out; rw [decide_eq_true]; omega
      have p0 : 0 ≤ x5 := HX.out.1
      have q0 : x5 < (l0.length : Int) := by have := HX.out; omega
      have P0 := Aside0.mk p0
      have Q0 := Aside0.mk q0
      have HN := Aside0.mk (show ys.length ≤ 9223372036854775807 from by have := (Kd.S_reads' HO.out).2.2.2.1; have := (Kd.S_reads' HO.out).1; omega)
      obtain ⟨x, hx⟩ : ∃ x, x = ys.getD x5.toNat z102 := ⟨_, rfl⟩
      have h := HA.out
      rw [laws_markInstrumentS.drop_cons ys x5 p0 (by have := HX.out; omega)] at h
      rw [← hx] at h
      obtain ⟨⟨t1, t2⟩, A20, H⟩ := Option.bind_eq_some_iff.mp h
      have A2 := Aside0.mk A20
      have HT := Aside0.mk H
      clear h HA A20 H
      obtain ⟨g, cap, eg, gb, gl, cl, HG⟩ := Kd.S_form HO.out (by have := HX.out; omega)
      injection eg with ea en ec
      subst ea
      subst ec
      clear en
      have GB := Aside0.mk gb
      clear gb gl HG
      obtain ⟨oki, ce, hcl, hM, hcc, hfr, hoki, hH⟩ := Kd.S_elem HO.out z102 x5 p0 q0
      rw [← hx] at hM
      clear hx
      obtain ⟨v0, rfl, hR⟩ := k102_openM hM
      obtain ⟨A0, cB, e0⟩ := Kd.R_slice hR
      subst e0
      have hx0 : wr.cell? ⟨g, x5.toNat * 2, none⟩ = some (.slice A0 x.f0.length cB) := hcc 0 _ rfl
      have HR := Aside0.mk hR
      have HH := Aside0.mk hH
      have HI := Aside0.mk hoki
      have HGO := Aside0.mk (show P0_ g from (Kd.S_R HO.out).1 g rfl)
      clear hcl hM hcc hfr hoki hH hR
      replace p0 := eq_true p0
      replace q0 := eq_true q0
      go_wp2_with (first | (go_at_call 21; (with_reducible refine (laws_markIntS.calls k oki (.slice A0 x.f0.length cB) _ x1 t1 t2 w0 _ ?side1 ?side2 A2.out).mono ?_); (case side1 => repeat (first | (with_reducible first | exact HB.out | apply below_alloc | apply pw_below_drewN | apply below_drew1) | exact HB.out)); (case side2 => (with_reducible repeat (first | apply Kd.R_alloc | apply Kd.R_drewN | apply Kd.R_drew)); exact HR.out); rintro e w3 ⟨rfl, hy0, hb, hkp⟩; have HO3 : Aside0 (Kd.S k102 102 w3 w0.heap.size P0_ (.slice (some ⟨g, 0, none⟩) l0.length cA) (ys.set x5.toNat ⟨t2, x.f1⟩)) := ⟨Kd.H_back (Kd.H_step (by (with_reducible repeat (first | apply Kd.H_alloc | apply Kd.H_drewN | apply Kd.H_drew)); exact HH.out) (fun kk hk hn hlt => hkp.2 kk hlt hn)) (k102_mkM w3 _ oki ⟨t2, x.f1⟩ (Kd.R_reok rfl hy0 (fun kk e_ => HR.out.1 kk e_))) (fun _ hk => hk)⟩; have HK0 : Aside0 (Kept w _ (fun k_ => P0_ k_)) := ⟨by repeat (first | (with_reducible first | exact HK.out | apply Kept.alloc | apply Kept.drewN | apply Kept.drew) | exact HK.out)⟩; have HK3 : Aside0 (Kept w w3 (fun k_ => P0_ k_)) := ⟨⟨Nat.le_trans HK0.out.1 hkp.1, fun i hi hn => (hkp.2 i (Nat.lt_of_lt_of_le hi HK0.out.1) (fun ho => hn (HI.out i ho).1)).trans (HK0.out.2 i hi hn)⟩⟩; have HB3 := Aside0.mk hb; clear hy0 hb hkp HK0 HO HK HB HH HR HI; obtain ⟨oki2, ce2, hcl2, hM2, hcc2, hfr2, hoki2, hH2⟩ := Kd.S_elem HO3.out z102 x5 P0.out Q0.out; obtain ⟨z, hz⟩ : ∃ z, z = (ys.set x5.toNat ⟨t2, x.f1⟩).getD x5.toNat z102 := ⟨_, rfl⟩; rw [← hz] at hM2; clear hz; obtain ⟨v2, rfl, hR2⟩ := k102_openM hM2; have hx2 := hcc2 1 _ rfl; have hf2 := hfr2 1; have HP := Aside0.mk (Kd.S_seg (ok := P0_) (okg := fun _ => False) (Kd.H_mono hH2 (fun kk hk => ⟨hk, fun h => h⟩)) P0.out Q0.out (seg := [.int .i64 t1]) (j := 1) (show 1 + 1 ≤ 2 from by decide) (x' := (⟨z.f0, t1⟩ : S102)) (okp := oki2) (k102_mkM w3 _ oki2 _ hR2) (fun kk hk => .inl hk) (fun _ hk => hk.elim)); (try simp only [show (k102).sz = 2 from rfl] at hx2); (try simp only [show (k102).sz = 2 from rfl] at hf2); clear hcl2 hM2 hcc2 hfr2 hoki2 hH2 hR2))
      go_roundg k1
      case measure => omega
      case rel =>
        have hw : (wrap64 (x5 + 1)).toNat = x5.toNat + 1 ∧ 0 ≤ wrap64 (x5 + 1) := by have := HX.out; have := HN.out; unfold wrap64; omega
        exact ⟨(ys.set x5.toNat ⟨t2, x.f1⟩).set x5.toNat ⟨z.f0, t1⟩, wrap64 (t1 + 1), wrap64 (x5 + 1), (by first | rfl | (simp; done) | (simp [*]; done)), (by first | rfl | (simp; done) | (simp [*]; done)), ⟨by rw [hw.1, List.drop_set_of_lt (Nat.lt_succ_self _), List.drop_set_of_lt (Nat.lt_succ_self _)]; exact HT.out⟩, ⟨⟨hw.2, by rw [hw.1]; have := HX.out; omega, by rw [List.length_set, List.length_set]; exact HX.out.2.2⟩⟩, ⟨HP.out.1⟩, ⟨Kept.of_grown (S := (fun k_ => P0_ k_)) HP.out.2 HK3.out (fun k_ e_ => by injection e_ with e_; rw [← e_]; exact .inl HGO.out)⟩, ⟨below_set (HB3.out) GB.out⟩⟩

mutual
def laws_FnExactWhoPlays.j0 : Nat → List (S100) → List (S87) → List Int → Bool → List (S102) → List (S85) → List Int → Bool → Bool → Option (Bool)
 | 0,_,_,_,_,_,_,_,_,_ => none
 | k + 1,x0,x1,x6,x7,x8,x9,x10,x11,x53 => if x53 = true then (some false) else ((laws_toInstrumentS.f k x0).bind fun t350 => ((laws_eqInstrumentS.f k x8 t350).bind fun t353 => (if t353 = true then ((laws_toNoteS.f k x1).bind fun t354 => ((laws_eqNoteS.f k x9 t354).bind fun t357 => (if t357 = true then ((laws_markInstrumentS.f k x8 1).bind fun t358 => ((laws_markNoteS.f k x9 t358).bind fun bt359 => (if bt359.1 < 0 then (laws_FnExactWhoPlays.j1 k x0 x1 x6 x7 x10 true) else ((laws_eqIntS.f k x10 x6).bind fun t361 => (if t361 = true then (laws_FnExactWhoPlays.j1 k x0 x1 x6 x7 x10 (x11 != x7)) else (laws_FnExactWhoPlays.j1 k x0 x1 x6 x7 x10 true)))))) else (some false)))) else (some false))))
def laws_FnExactWhoPlays.j1 : Nat → List (S100) → List (S87) → List Int → Bool → List Int → Bool → Option (Bool)
 | 0,_,_,_,_,_,_ => none
 | k + 1,x0,x1,x6,x7,x10,x82 => if x82 = true then (some false) else ((laws_markIntS.f k x10 1).bind fun bt362 => ((laws_heldIntS.f k bt362.2 1).bind fun t364 => (if t364 < 0 then (some false) else (if t364 = bt362.1 then ((laws_toInstrumentS.f k x0).bind fun t365 => ((laws_toNoteS.f k x1).bind fun t368 => ((impl_WhoPlays.f k t365 t368).bind fun bt371 => ((laws_eqIntS.f k bt371.1 x6).bind fun t375 => (if t375 = true then (laws_FnExactWhoPlays.j2 k bt362.2 bt362.1 (bt371.2 != x7)) else (laws_FnExactWhoPlays.j2 k bt362.2 bt362.1 true)))))) else (some false)))))
def laws_FnExactWhoPlays.j2 : Nat → List Int → Int → Bool → Option (Bool)
 | 0,_,_,_ => none
 | k + 1,x10,x13,x110 => if x110 = true then (some false) else ((laws_heldIntS.f k x10 1).bind fun t376 => (if t376 < 0 then (some false) else (if t376 = x13 then (some true) else (some false))))
end
def laws_FnExactWhoPlays.f (k : Nat) (l0 : List (S100)) (l1 : List (S87)) : Option (Bool):=(laws_szInstrumentS.f k l0 1048576).bind fun t327 => (if t327 < 0 then (some true) else ((laws_szNoteS.f l1 t327).bind fun t328 => (if t328 < 0 then (some true) else ((laws_toInstrumentS.f k l0).bind fun t329 => ((laws_toNoteS.f k l1).bind fun t332 => ((spec_WhoPlays.f k t329 t332).bind fun bt335 => ((laws_toInstrumentS.f k l0).bind fun t339 => ((laws_toNoteS.f k l1).bind fun t342 => ((impl_WhoPlays.f k t339 t342).bind fun bt345 => ((laws_eqIntS.f k bt345.1 bt335.1).bind fun t349 => (if t349 = true then (laws_FnExactWhoPlays.j0 k l0 l1 bt335.1 bt335.2 t339 t342 bt345.1 bt345.2 (bt345.2 != bt335.2)) else (laws_FnExactWhoPlays.j0 k l0 l1 bt335.1 bt335.2 t339 t342 bt345.1 bt345.2 true))))))))))))
theorem laws_FnExactWhoPlays.mono_l : ∀ k,(∀ y0 y1 y2 y3 y4 y5 y6 y7 y8,LeO (laws_FnExactWhoPlays.j0 k y0 y1 y2 y3 y4 y5 y6 y7 y8) (laws_FnExactWhoPlays.j0 (k + 1) y0 y1 y2 y3 y4 y5 y6 y7 y8)) ∧ (∀ y0 y1 y2 y3 y4 y5,LeO (laws_FnExactWhoPlays.j1 k y0 y1 y2 y3 y4 y5) (laws_FnExactWhoPlays.j1 (k + 1) y0 y1 y2 y3 y4 y5)) ∧ (∀ y0 y1 y2,LeO (laws_FnExactWhoPlays.j2 k y0 y1 y2) (laws_FnExactWhoPlays.j2 (k + 1) y0 y1 y2))
 | 0 => ⟨fun _ _ _ _ _ _ _ _ _ r h => by simp [laws_FnExactWhoPlays.j0] at h,fun _ _ _ _ _ _ r h => by simp [laws_FnExactWhoPlays.j1] at h,fun _ _ _ r h => by simp [laws_FnExactWhoPlays.j2] at h⟩
 | k + 1 => by
  obtain ⟨ih0,ih1,ih2⟩:=laws_FnExactWhoPlays.mono_l k
  refine ⟨?_,?_,?_⟩
  ·
   intro y0 y1 y2 y3 y4 y5 y6 y7 y8
   unfold laws_FnExactWhoPlays.j0
   repeat' first
   | (with_reducible exact ih0 _ _ _ _ _ _ _ _ _)
   | (with_reducible exact ih1 _ _ _ _ _ _)
   | (with_reducible exact ih2 _ _ _)
   | (with_reducible exact impl_WhoPlays.mono _ _ _)
   | (with_reducible exact laws_eqInstrumentS.mono _ _ _)
   | (with_reducible exact laws_eqIntS.mono _ _ _)
   | (with_reducible exact laws_eqNoteS.mono _ _ _)
   | (with_reducible exact laws_heldIntS.mono _ _ _)
   | (with_reducible exact laws_markInstrumentS.mono _ _ _)
   | (with_reducible exact laws_markIntS.mono _ _ _)
   | (with_reducible exact laws_markNoteS.mono _ _ _)
   | (with_reducible exact laws_szInstrumentS.mono _ _ _)
   | (with_reducible exact laws_toInstrumentS.mono _ _)
   | (with_reducible exact laws_toNoteS.mono _ _)
   | (with_reducible exact spec_WhoPlays.mono _ _ _)
   | (with_reducible exact LeO.refl _)
   | (with_reducible exact LeO.none _)
   | (with_reducible refine LeO.ite ?_ ?_)
   | (with_reducible refine LeO.bind ?_ (fun _ => ?_))
   | exact ih0 _ _ _ _ _ _ _ _ _
   | exact ih1 _ _ _ _ _ _
   | exact ih2 _ _ _
   | exact LeO.none _
   | refine LeO.ite ?_ ?_
   | refine LeO.bind ?_ (fun _ => ?_)
  ·
   intro y0 y1 y2 y3 y4 y5
   unfold laws_FnExactWhoPlays.j1
   repeat' first
   | (with_reducible exact ih0 _ _ _ _ _ _ _ _ _)
   | (with_reducible exact ih1 _ _ _ _ _ _)
   | (with_reducible exact ih2 _ _ _)
   | (with_reducible exact impl_WhoPlays.mono _ _ _)
   | (with_reducible exact laws_eqInstrumentS.mono _ _ _)
   | (with_reducible exact laws_eqIntS.mono _ _ _)
   | (with_reducible exact laws_eqNoteS.mono _ _ _)
   | (with_reducible exact laws_heldIntS.mono _ _ _)
   | (with_reducible exact laws_markInstrumentS.mono _ _ _)
   | (with_reducible exact laws_markIntS.mono _ _ _)
   | (with_reducible exact laws_markNoteS.mono _ _ _)
   | (with_reducible exact laws_szInstrumentS.mono _ _ _)
   | (with_reducible exact laws_toInstrumentS.mono _ _)
   | (with_reducible exact laws_toNoteS.mono _ _)
   | (with_reducible exact spec_WhoPlays.mono _ _ _)
   | (with_reducible exact LeO.refl _)
   | (with_reducible exact LeO.none _)
   | (with_reducible refine LeO.ite ?_ ?_)
   | (with_reducible refine LeO.bind ?_ (fun _ => ?_))
   | exact ih0 _ _ _ _ _ _ _ _ _
   | exact ih1 _ _ _ _ _ _
   | exact ih2 _ _ _
   | exact LeO.none _
   | refine LeO.ite ?_ ?_
   | refine LeO.bind ?_ (fun _ => ?_)
  ·
   intro y0 y1 y2
   unfold laws_FnExactWhoPlays.j2
   repeat' first
   | (with_reducible exact ih0 _ _ _ _ _ _ _ _ _)
   | (with_reducible exact ih1 _ _ _ _ _ _)
   | (with_reducible exact ih2 _ _ _)
   | (with_reducible exact impl_WhoPlays.mono _ _ _)
   | (with_reducible exact laws_eqInstrumentS.mono _ _ _)
   | (with_reducible exact laws_eqIntS.mono _ _ _)
   | (with_reducible exact laws_eqNoteS.mono _ _ _)
   | (with_reducible exact laws_heldIntS.mono _ _ _)
   | (with_reducible exact laws_markInstrumentS.mono _ _ _)
   | (with_reducible exact laws_markIntS.mono _ _ _)
   | (with_reducible exact laws_markNoteS.mono _ _ _)
   | (with_reducible exact laws_szInstrumentS.mono _ _ _)
   | (with_reducible exact laws_toInstrumentS.mono _ _)
   | (with_reducible exact laws_toNoteS.mono _ _)
   | (with_reducible exact spec_WhoPlays.mono _ _ _)
   | (with_reducible exact LeO.refl _)
   | (with_reducible exact LeO.none _)
   | (with_reducible refine LeO.ite ?_ ?_)
   | (with_reducible refine LeO.bind ?_ (fun _ => ?_))
   | exact ih0 _ _ _ _ _ _ _ _ _
   | exact ih1 _ _ _ _ _ _
   | exact ih2 _ _ _
   | exact LeO.none _
   | refine LeO.ite ?_ ?_
   | refine LeO.bind ?_ (fun _ => ?_)
theorem laws_FnExactWhoPlays.mono : ∀ a0 a1 k,LeO (laws_FnExactWhoPlays.f k a0 a1) (laws_FnExactWhoPlays.f (k + 1) a0 a1):=by
 intro a0 a1 k
 obtain ⟨ih0,ih1,ih2⟩:=laws_FnExactWhoPlays.mono_l k
 unfold laws_FnExactWhoPlays.f
 repeat' first
   | (with_reducible exact ih0 _ _ _ _ _ _ _ _ _)
   | (with_reducible exact ih1 _ _ _ _ _ _)
   | (with_reducible exact ih2 _ _ _)
   | (with_reducible exact impl_WhoPlays.mono _ _ _)
   | (with_reducible exact laws_eqInstrumentS.mono _ _ _)
   | (with_reducible exact laws_eqIntS.mono _ _ _)
   | (with_reducible exact laws_eqNoteS.mono _ _ _)
   | (with_reducible exact laws_heldIntS.mono _ _ _)
   | (with_reducible exact laws_markInstrumentS.mono _ _ _)
   | (with_reducible exact laws_markIntS.mono _ _ _)
   | (with_reducible exact laws_markNoteS.mono _ _ _)
   | (with_reducible exact laws_szInstrumentS.mono _ _ _)
   | (with_reducible exact laws_toInstrumentS.mono _ _)
   | (with_reducible exact laws_toNoteS.mono _ _)
   | (with_reducible exact spec_WhoPlays.mono _ _ _)
   | (with_reducible exact LeO.refl _)
   | (with_reducible exact LeO.none _)
   | (with_reducible refine LeO.ite ?_ ?_)
   | (with_reducible refine LeO.bind ?_ (fun _ => ?_))
   | exact ih0 _ _ _ _ _ _ _ _ _
   | exact ih1 _ _ _ _ _ _
   | exact ih2 _ _ _
   | exact LeO.none _
   | refine LeO.ite ?_ ?_
   | refine LeO.bind ?_ (fun _ => ?_)
set_option maxHeartbeats 8000000 in
set_option maxRecDepth 100000 in
theorem laws_FnExactWhoPlays.calls (k : Nat) (A0 : Option Addr) (c0 : Nat) (l0 : List (S100)) (A1 : Option Addr) (c1 : Nat) (l1 : List (S87)) (r : Bool) (w : World) (hr0 : Kd.C k100 w A0 l0.length l0) (hc0 : l0.length ≤ c0) (hr1 : Kd.C k87 w A1 l1.length l1) (hc1 : l1.length ≤ c1) (h : laws_FnExactWhoPlays.f k l0 l1 = some r) :
  Calls Try.prog 9 #[.slice A0 l0.length c0,.slice A1 l1.length c1] w fun e w' => e = .returned (.bool r) ∧ Below w.heap.size w w':=by
 have HR0:=Aside0.mk hr0
 have HC0:=Aside0.mk hc0
 clear hr0 hc0
 have HR1:=Aside0.mk hr1
 have HC1:=Aside0.mk hc1
 clear hr1 hc1
 have HB:=Aside0.mk (Below.refl w.heap.size w)
 have H : ((laws_szInstrumentS.f k l0 1048576).bind fun t327 => (if t327 < 0 then (some true) else ((laws_szNoteS.f l1 t327).bind fun t328 => (if t328 < 0 then (some true) else ((laws_toInstrumentS.f k l0).bind fun t329 => ((laws_toNoteS.f k l1).bind fun t332 => ((spec_WhoPlays.f k t329 t332).bind fun bt335 => ((laws_toInstrumentS.f k l0).bind fun t339 => ((laws_toNoteS.f k l1).bind fun t342 => ((impl_WhoPlays.f k t339 t342).bind fun bt345 => ((laws_eqIntS.f k bt345.1 bt335.1).bind fun t349 => (if t349 = true then (laws_FnExactWhoPlays.j0 k l0 l1 bt335.1 bt335.2 t339 t342 bt345.1 bt345.2 (bt345.2 != bt335.2)) else (laws_FnExactWhoPlays.j0 k l0 l1 bt335.1 bt335.2 t339 t342 bt345.1 bt345.2 true))))))))))))) = some r:=h
 clear h
 replace H:=Option.bind_eq_some_iff.mp H
 obtain ⟨t327,A30,H⟩:=H
 replace H : (if t327 < 0 then (some true) else ((laws_szNoteS.f l1 t327).bind fun t328 => (if t328 < 0 then (some true) else ((laws_toInstrumentS.f k l0).bind fun t329 => ((laws_toNoteS.f k l1).bind fun t332 => ((spec_WhoPlays.f k t329 t332).bind fun bt335 => ((laws_toInstrumentS.f k l0).bind fun t339 => ((laws_toNoteS.f k l1).bind fun t342 => ((impl_WhoPlays.f k t339 t342).bind fun bt345 => ((laws_eqIntS.f k bt345.1 bt335.1).bind fun t349 => (if t349 = true then (laws_FnExactWhoPlays.j0 k l0 l1 bt335.1 bt335.2 t339 t342 bt345.1 bt345.2 (bt345.2 != bt335.2)) else (laws_FnExactWhoPlays.j0 k l0 l1 bt335.1 bt335.2 t339 t342 bt345.1 bt345.2 true)))))))))))) = some r:=H
 have A3:=Aside0.mk A30
 clear A30
 by_cases c4 : t327 < 0
 ·
  rw [if_pos c4] at H
  have c4b0 : decide (t327 < 0) = true:=decide_eq_true c4
  clear c4;obtain rfl:=Option.some.inj H;go_enter Try.func9,Try.ntmps9;go_wp2_with (first|((with_reducible refine gate_callee (f:=31) rfl ?_);refine goesL_ (some 19) rfl rfl Try.func31 (by kernel_rfl) rfl #[.slice A0 l0.length c0,.int .i64 1048576] rfl (by (try simp only [List.map_toArray,List.map_cons,List.map_nil]);first|done|rfl|(simp only [List.length_drop,List.length_take];rfl)) ?_;(with_reducible refine (laws_szInstrumentS.calls k _ _ l0 1048576 t327 _ ?side1 ?side2 A3.out).mono ?_);(case side1 => repeat (first|exact HR0.out|(with_reducible refine Kd.C_alloc ?_ _)|(with_reducible refine Kd.C_drewN ?_ _)|(with_reducible refine Kd.C_drew ?_)));(case side2 => exact HC0.out);rintro e w5 ⟨rfl,hb⟩;refine ⟨_,rfl,?_⟩;have n0_:=Aside0.mk (below_step (by repeat (first|(with_reducible first|exact HB.out|apply below_alloc|apply pw_below_drewN|apply below_drew1)|exact HB.out)) hb);clear HB;have HB:=n0_;clear n0_;(try clear hb);(try clear hb2);(try clear hk);(try clear hi)))
  go_ret
  exact ⟨by first|rfl|(simp [errW_none,errW_some] <;> rfl)|(simp [*,errW_none,errW_some] <;> rfl),by repeat (first|(with_reducible first|exact HB.out|apply below_alloc|apply pw_below_drewN|apply below_drew1)|exact HB.out)⟩
 ·
  rw [if_neg c4] at H
  have c4b0 : decide (t327 < 0) = false:=decide_eq_false c4
  clear c4;replace H:=Option.bind_eq_some_iff.mp H;obtain ⟨t328,A60,H⟩:=H;replace H : (if t328 < 0 then (some true) else ((laws_toInstrumentS.f k l0).bind fun t329 => ((laws_toNoteS.f k l1).bind fun t332 => ((spec_WhoPlays.f k t329 t332).bind fun bt335 => ((laws_toInstrumentS.f k l0).bind fun t339 => ((laws_toNoteS.f k l1).bind fun t342 => ((impl_WhoPlays.f k t339 t342).bind fun bt345 => ((laws_eqIntS.f k bt345.1 bt335.1).bind fun t349 => (if t349 = true then (laws_FnExactWhoPlays.j0 k l0 l1 bt335.1 bt335.2 t339 t342 bt345.1 bt345.2 (bt345.2 != bt335.2)) else (laws_FnExactWhoPlays.j0 k l0 l1 bt335.1 bt335.2 t339 t342 bt345.1 bt345.2 true)))))))))) = some r:=H
  have A6:=Aside0.mk A60;clear A60;by_cases c7 : t328 < 0
  ·
   rw [if_pos c7] at H
   have c7b0 : decide (t328 < 0) = true:=decide_eq_true c7
   clear c7;obtain rfl:=Option.some.inj H;go_enter Try.func9,Try.ntmps9;go_wp2_with (first|((with_reducible refine gate_callee (f:=31) rfl ?_);refine goesL_ (some 19) rfl rfl Try.func31 (by kernel_rfl) rfl #[.slice A0 l0.length c0,.int .i64 1048576] rfl (by (try simp only [List.map_toArray,List.map_cons,List.map_nil]);first|done|rfl|(simp only [List.length_drop,List.length_take];rfl)) ?_;(with_reducible refine (laws_szInstrumentS.calls k _ _ l0 1048576 t327 _ ?side1 ?side2 A3.out).mono ?_);(case side1 => repeat (first|exact HR0.out|(with_reducible refine Kd.C_alloc ?_ _)|(with_reducible refine Kd.C_drewN ?_ _)|(with_reducible refine Kd.C_drew ?_)));(case side2 => exact HC0.out);rintro e w8 ⟨rfl,hb⟩;refine ⟨_,rfl,?_⟩;have n0_:=Aside0.mk (below_step (by repeat (first|(with_reducible first|exact HB.out|apply below_alloc|apply pw_below_drewN|apply below_drew1)|exact HB.out)) hb);clear HB;have HB:=n0_;clear n0_;(try clear hb);(try clear hb2);(try clear hk);(try clear hi))|((with_reducible refine gate_callee (f:=14) rfl ?_);refine goesL_ (some 24) rfl rfl Try.func14 (by kernel_rfl) rfl #[.slice A1 l1.length c1,.int .i64 t327] rfl (by (try simp only [List.map_toArray,List.map_cons,List.map_nil]);first|done|rfl|(simp only [List.length_drop,List.length_take];rfl)) ?_;(with_reducible refine (laws_szNoteS.calls _ _ l1 t327 t328 _ ?side1 ?side2 A6.out).mono ?_);(case side1 => repeat (first|exact (Kd.C_below HR1.out HB.out)|(with_reducible refine Kd.C_alloc ?_ _)|(with_reducible refine Kd.C_drewN ?_ _)|(with_reducible refine Kd.C_drew ?_)));(case side2 => exact HC1.out);rintro e w' ⟨rfl,⟨nd,rfl⟩⟩;refine ⟨_,rfl,?_⟩))
   go_ret
   exact ⟨by first|rfl|(simp [errW_none,errW_some] <;> rfl)|(simp [*,errW_none,errW_some] <;> rfl),by repeat (first|(with_reducible first|exact HB.out|apply below_alloc|apply pw_below_drewN|apply below_drew1)|exact HB.out)⟩
  ·
   rw [if_neg c7] at H
   have c7b0 : decide (t328 < 0) = false:=decide_eq_false c7
   clear c7;replace H:=Option.bind_eq_some_iff.mp H;obtain ⟨t329,A90,H⟩:=H;replace H : ((laws_toNoteS.f k l1).bind fun t332 => ((spec_WhoPlays.f k t329 t332).bind fun bt335 => ((laws_toInstrumentS.f k l0).bind fun t339 => ((laws_toNoteS.f k l1).bind fun t342 => ((impl_WhoPlays.f k t339 t342).bind fun bt345 => ((laws_eqIntS.f k bt345.1 bt335.1).bind fun t349 => (if t349 = true then (laws_FnExactWhoPlays.j0 k l0 l1 bt335.1 bt335.2 t339 t342 bt345.1 bt345.2 (bt345.2 != bt335.2)) else (laws_FnExactWhoPlays.j0 k l0 l1 bt335.1 bt335.2 t339 t342 bt345.1 bt345.2 true)))))))) = some r:=H
   have A9:=Aside0.mk A90;clear A90;replace H:=Option.bind_eq_some_iff.mp H;obtain ⟨t332,A100,H⟩:=H;replace H : ((spec_WhoPlays.f k t329 t332).bind fun bt335 => ((laws_toInstrumentS.f k l0).bind fun t339 => ((laws_toNoteS.f k l1).bind fun t342 => ((impl_WhoPlays.f k t339 t342).bind fun bt345 => ((laws_eqIntS.f k bt345.1 bt335.1).bind fun t349 => (if t349 = true then (laws_FnExactWhoPlays.j0 k l0 l1 bt335.1 bt335.2 t339 t342 bt345.1 bt345.2 (bt345.2 != bt335.2)) else (laws_FnExactWhoPlays.j0 k l0 l1 bt335.1 bt335.2 t339 t342 bt345.1 bt345.2 true))))))) = some r:=H
   have A10:=Aside0.mk A100;clear A100;replace H:=Option.bind_eq_some_iff.mp H;obtain ⟨⟨t335,t336⟩,A110,H⟩:=H;replace H : ((laws_toInstrumentS.f k l0).bind fun t339 => ((laws_toNoteS.f k l1).bind fun t342 => ((impl_WhoPlays.f k t339 t342).bind fun bt345 => ((laws_eqIntS.f k bt345.1 t335).bind fun t349 => (if t349 = true then (laws_FnExactWhoPlays.j0 k l0 l1 t335 t336 t339 t342 bt345.1 bt345.2 (bt345.2 != t336)) else (laws_FnExactWhoPlays.j0 k l0 l1 t335 t336 t339 t342 bt345.1 bt345.2 true)))))) = some r:=H
   have A11:=Aside0.mk A110;clear A110;replace H:=Option.bind_eq_some_iff.mp H;obtain ⟨t339,A120,H⟩:=H;replace H : ((laws_toNoteS.f k l1).bind fun t342 => ((impl_WhoPlays.f k t339 t342).bind fun bt345 => ((laws_eqIntS.f k bt345.1 t335).bind fun t349 => (if t349 = true then (laws_FnExactWhoPlays.j0 k l0 l1 t335 t336 t339 t342 bt345.1 bt345.2 (bt345.2 != t336)) else (laws_FnExactWhoPlays.j0 k l0 l1 t335 t336 t339 t342 bt345.1 bt345.2 true))))) = some r:=H
   have A12:=Aside0.mk A120;clear A120;replace H:=Option.bind_eq_some_iff.mp H;obtain ⟨t342,A130,H⟩:=H;replace H : ((impl_WhoPlays.f k t339 t342).bind fun bt345 => ((laws_eqIntS.f k bt345.1 t335).bind fun t349 => (if t349 = true then (laws_FnExactWhoPlays.j0 k l0 l1 t335 t336 t339 t342 bt345.1 bt345.2 (bt345.2 != t336)) else (laws_FnExactWhoPlays.j0 k l0 l1 t335 t336 t339 t342 bt345.1 bt345.2 true)))) = some r:=H
   have A13:=Aside0.mk A130;clear A130;replace H:=Option.bind_eq_some_iff.mp H;obtain ⟨⟨t345,t346⟩,A140,H⟩:=H;replace H : ((laws_eqIntS.f k t345 t335).bind fun t349 => (if t349 = true then (laws_FnExactWhoPlays.j0 k l0 l1 t335 t336 t339 t342 t345 t346 (t346 != t336)) else (laws_FnExactWhoPlays.j0 k l0 l1 t335 t336 t339 t342 t345 t346 true))) = some r:=H
   have A14:=Aside0.mk A140;clear A140;have HC15:=Aside0.mk H;clear H;go_enter Try.func9,Try.ntmps9;go_upto_region 12 with (first|((with_reducible refine gate_callee (f:=31) rfl ?_);refine goesL_ (some 19) rfl rfl Try.func31 (by kernel_rfl) rfl #[.slice A0 l0.length c0,.int .i64 1048576] rfl (by (try simp only [List.map_toArray,List.map_cons,List.map_nil]);first|done|rfl|(simp only [List.length_drop,List.length_take];rfl)) ?_;(with_reducible refine (laws_szInstrumentS.calls k _ _ l0 1048576 t327 _ ?side1 ?side2 A3.out).mono ?_);(case side1 => repeat (first|exact HR0.out|(with_reducible refine Kd.C_alloc ?_ _)|(with_reducible refine Kd.C_drewN ?_ _)|(with_reducible refine Kd.C_drew ?_)));(case side2 => exact HC0.out);rintro e w16 ⟨rfl,hb⟩;refine ⟨_,rfl,?_⟩;have n0_:=Aside0.mk (below_step (by repeat (first|(with_reducible first|exact HB.out|apply below_alloc|apply pw_below_drewN|apply below_drew1)|exact HB.out)) hb);clear HB;have HB:=n0_;clear n0_;(try clear hb);(try clear hb2);(try clear hk);(try clear hi))|((with_reducible refine gate_callee (f:=14) rfl ?_);refine goesL_ (some 24) rfl rfl Try.func14 (by kernel_rfl) rfl #[.slice A1 l1.length c1,.int .i64 t327] rfl (by (try simp only [List.map_toArray,List.map_cons,List.map_nil]);first|done|rfl|(simp only [List.length_drop,List.length_take];rfl)) ?_;(with_reducible refine (laws_szNoteS.calls _ _ l1 t327 t328 _ ?side1 ?side2 A6.out).mono ?_);(case side1 => repeat (first|exact (Kd.C_below HR1.out HB.out)|(with_reducible refine Kd.C_alloc ?_ _)|(with_reducible refine Kd.C_drewN ?_ _)|(with_reducible refine Kd.C_drew ?_)));(case side2 => exact HC1.out);rintro e w' ⟨rfl,⟨nd,rfl⟩⟩;refine ⟨_,rfl,?_⟩)|((with_reducible refine gate_callee (f:=33) rfl ?_);refine goesL_ (some 29) rfl rfl Try.func33 (by kernel_rfl) rfl #[.slice A0 l0.length c0] rfl (by (try simp only [List.map_toArray,List.map_cons,List.map_nil]);first|done|rfl|(simp only [List.length_drop,List.length_take];rfl)) ?_;(with_reducible refine (laws_toInstrumentS.calls k _ _ l0 t329 _ ?side1 ?side2 A9.out).mono ?_);(case side1 => repeat (first|exact (Kd.C_below HR0.out (by repeat (first|(with_reducible first|exact HB.out|apply below_alloc|apply pw_below_drewN|apply below_drew1)|exact HB.out)))|(with_reducible refine Kd.C_alloc ?_ _)|(with_reducible refine Kd.C_drewN ?_ _)|(with_reducible refine Kd.C_drew ?_)));(case side2 => exact HC0.out);rintro e w17 ⟨v330,rfl,ho0,hb⟩;refine ⟨_,rfl,?_⟩;have n0_:=Aside0.mk (Kd.S_lower ho0 (below_size (by repeat (first|(with_reducible first|exact HB.out|apply below_alloc|apply pw_below_drewN|apply below_drew1)|exact HB.out))));have n1_:=Aside0.mk (below_step (by repeat (first|(with_reducible first|exact HB.out|apply below_alloc|apply pw_below_drewN|apply below_drew1)|exact HB.out)) hb);clear HB;have HO331:=n0_;have HB:=n1_;clear n0_ n1_;(try clear hb);(try clear hb2);(try clear hk);(try clear hi);(try clear ho0))|((with_reducible refine gate_callee (f:=16) rfl ?_);refine goesL_ (some 31) rfl rfl Try.func16 (by kernel_rfl) rfl #[.slice A1 l1.length c1] rfl (by (try simp only [List.map_toArray,List.map_cons,List.map_nil]);first|done|rfl|(simp only [List.length_drop,List.length_take];rfl)) ?_;(with_reducible refine (laws_toNoteS.calls k _ _ l1 t332 _ ?side1 ?side2 A10.out).mono ?_);(case side1 => repeat (first|exact (Kd.C_below HR1.out HB.out)|(with_reducible refine Kd.C_alloc ?_ _)|(with_reducible refine Kd.C_drewN ?_ _)|(with_reducible refine Kd.C_drew ?_)));(case side2 => exact HC1.out);rintro e w18 ⟨v333,rfl,ho0,hb⟩;refine ⟨_,rfl,?_⟩;have n0_:=Aside0.mk (Kd.S_below (by (with_reducible repeat (first|apply Kd.S_alloc|apply Kd.S_drewN|apply Kd.S_drew));exact HO331.out) hb);have n1_:=Aside0.mk (Kd.R_lower ho0 (below_size (by repeat (first|(with_reducible first|exact HB.out|apply below_alloc|apply pw_below_drewN|apply below_drew1)|exact HB.out))));have n2_:=Aside0.mk (below_step (by repeat (first|(with_reducible first|exact HB.out|apply below_alloc|apply pw_below_drewN|apply below_drew1)|exact HB.out)) hb);clear HO331;clear HB;have HO331:=n0_;have HO334:=n1_;have HB:=n2_;clear n0_ n1_ n2_;(try clear hb);(try clear hb2);(try clear hk);(try clear hi);(try clear ho0);obtain ⟨Ao19,co19,eo19⟩:=Kd.S_slice HO331.out;subst eo19;obtain ⟨Ao20,co20,eo20⟩:=Kd.R_slice HO334.out;subst eo20)|((with_reducible refine gate_callee (f:=57) rfl ?_);refine goesL_ (some 32) rfl rfl Try.func57 (by kernel_rfl) rfl #[.slice Ao19 t329.length co19,.slice Ao20 t332.length co20] rfl (by (try simp only [List.map_toArray,List.map_cons,List.map_nil]);first|done|rfl|(simp only [List.length_drop,List.length_take];rfl)) ?_;(with_reducible refine (spec_WhoPlays.calls k _ _ t329 _ _ t332 t335 t336 _ ?side1 ?side2 ?side3 ?side4 A11.out).mono ?_);(case side1 => repeat (first|exact (Kd.S_reads' HO331.out).2.2|(with_reducible refine Kd.C_alloc ?_ _)|(with_reducible refine Kd.C_drewN ?_ _)|(with_reducible refine Kd.C_drew ?_)));(case side2 => exact (Kd.S_reads' HO331.out).2.1);(case side3 => repeat (first|exact (Kd.R_reads' HO334.out).2.2|(with_reducible refine Kd.C_alloc ?_ _)|(with_reducible refine Kd.C_drewN ?_ _)|(with_reducible refine Kd.C_drew ?_)));(case side4 => exact (Kd.R_reads' HO334.out).2.1);rintro e w21 ⟨v337,rfl,ho0,hb⟩;refine ⟨_,rfl,?_⟩;have n0_:=Aside0.mk (Kd.S_elder' (by (with_reducible repeat (first|apply Kd.S_alloc|apply Kd.S_drewN|apply Kd.S_drew));exact HO331.out) (Kd.R_base ho0) hb);have n1_:=Aside0.mk (Kd.R_below (by (with_reducible repeat (first|apply Kd.R_alloc|apply Kd.R_drewN|apply Kd.R_drew));exact HO334.out) hb);have n2_:=Aside0.mk (Kd.R_lower ho0 (below_size (by repeat (first|(with_reducible first|exact HB.out|apply below_alloc|apply pw_below_drewN|apply below_drew1)|exact HB.out))));have n3_:=Aside0.mk (below_step (by repeat (first|(with_reducible first|exact HB.out|apply below_alloc|apply pw_below_drewN|apply below_drew1)|exact HB.out)) hb);clear HO331;clear HO334;clear HB;have HO331:=n0_;have HO334:=n1_;have HO338:=n2_;have HB:=n3_;clear n0_ n1_ n2_ n3_;(try clear hb);(try clear hb2);(try clear hk);(try clear hi);(try clear ho0))|((with_reducible refine gate_callee (f:=33) rfl ?_);refine goesL_ (some 36) rfl rfl Try.func33 (by kernel_rfl) rfl #[.slice A0 l0.length c0] rfl (by (try simp only [List.map_toArray,List.map_cons,List.map_nil]);first|done|rfl|(simp only [List.length_drop,List.length_take];rfl)) ?_;(with_reducible refine (laws_toInstrumentS.calls k _ _ l0 t339 _ ?side1 ?side2 A12.out).mono ?_);(case side1 => repeat (first|exact (Kd.C_below HR0.out HB.out)|(with_reducible refine Kd.C_alloc ?_ _)|(with_reducible refine Kd.C_drewN ?_ _)|(with_reducible refine Kd.C_drew ?_)));(case side2 => exact HC0.out);rintro e w22 ⟨v340,rfl,ho0,hb⟩;refine ⟨_,rfl,?_⟩;have n0_:=Aside0.mk (Kd.S_elder' (by (with_reducible repeat (first|apply Kd.S_alloc|apply Kd.S_drewN|apply Kd.S_drew));exact HO331.out) (Kd.S_base ho0) hb);have n1_:=Aside0.mk (Kd.R_below (by (with_reducible repeat (first|apply Kd.R_alloc|apply Kd.R_drewN|apply Kd.R_drew));exact HO334.out) hb);have n2_:=Aside0.mk (Kd.R_below (by (with_reducible repeat (first|apply Kd.R_alloc|apply Kd.R_drewN|apply Kd.R_drew));exact HO338.out) hb);have n3_:=Aside0.mk (Kd.S_lower (Kd.S_new' (Kd.S_new' ho0 (Kd.S_lt (by (with_reducible repeat (first|apply Kd.S_alloc|apply Kd.S_drewN|apply Kd.S_drew));exact HO331.out))) (Kd.R_lt (by (with_reducible repeat (first|apply Kd.R_alloc|apply Kd.R_drewN|apply Kd.R_drew));exact HO338.out))) (below_size (by repeat (first|(with_reducible first|exact HB.out|apply below_alloc|apply pw_below_drewN|apply below_drew1)|exact HB.out))));have n4_:=Aside0.mk (below_step (by repeat (first|(with_reducible first|exact HB.out|apply below_alloc|apply pw_below_drewN|apply below_drew1)|exact HB.out)) hb);clear HO331;clear HO334;clear HO338;clear HB;have HO331:=n0_;have HO334:=n1_;have HO338:=n2_;have HO341:=n3_;have HB:=n4_;clear n0_ n1_ n2_ n3_ n4_;(try clear hb);(try clear hb2);(try clear hk);(try clear hi);(try clear ho0))|((with_reducible refine gate_callee (f:=16) rfl ?_);refine goesL_ (some 38) rfl rfl Try.func16 (by kernel_rfl) rfl #[.slice A1 l1.length c1] rfl (by (try simp only [List.map_toArray,List.map_cons,List.map_nil]);first|done|rfl|(simp only [List.length_drop,List.length_take];rfl)) ?_;(with_reducible refine (laws_toNoteS.calls k _ _ l1 t342 _ ?side1 ?side2 A13.out).mono ?_);(case side1 => repeat (first|exact (Kd.C_below HR1.out HB.out)|(with_reducible refine Kd.C_alloc ?_ _)|(with_reducible refine Kd.C_drewN ?_ _)|(with_reducible refine Kd.C_drew ?_)));(case side2 => exact HC1.out);rintro e w23 ⟨v343,rfl,ho0,hb⟩;refine ⟨_,rfl,?_⟩;have n0_:=Aside0.mk (Kd.S_below (by (with_reducible repeat (first|apply Kd.S_alloc|apply Kd.S_drewN|apply Kd.S_drew));exact HO331.out) hb);have n1_:=Aside0.mk (Kd.R_elder' (by (with_reducible repeat (first|apply Kd.R_alloc|apply Kd.R_drewN|apply Kd.R_drew));exact HO334.out) (Kd.R_base ho0) hb);have n2_:=Aside0.mk (Kd.R_below (by (with_reducible repeat (first|apply Kd.R_alloc|apply Kd.R_drewN|apply Kd.R_drew));exact HO338.out) hb);have n3_:=Aside0.mk (Kd.S_below (by (with_reducible repeat (first|apply Kd.S_alloc|apply Kd.S_drewN|apply Kd.S_drew));exact HO341.out) hb);have n4_:=Aside0.mk (Kd.R_lower (Kd.R_new' ho0 (Kd.R_lt (by (with_reducible repeat (first|apply Kd.R_alloc|apply Kd.R_drewN|apply Kd.R_drew));exact HO334.out))) (below_size (by repeat (first|(with_reducible first|exact HB.out|apply below_alloc|apply pw_below_drewN|apply below_drew1)|exact HB.out))));have n5_:=Aside0.mk (below_step (by repeat (first|(with_reducible first|exact HB.out|apply below_alloc|apply pw_below_drewN|apply below_drew1)|exact HB.out)) hb);clear HO331;clear HO334;clear HO338;clear HO341;clear HB;have HO331:=n0_;have HO334:=n1_;have HO338:=n2_;have HO341:=n3_;have HO344:=n4_;have HB:=n5_;clear n0_ n1_ n2_ n3_ n4_ n5_;(try clear hb);(try clear hb2);(try clear hk);(try clear hi);(try clear ho0);obtain ⟨Ao24,co24,eo24⟩:=Kd.S_slice HO341.out;subst eo24;obtain ⟨Ao25,co25,eo25⟩:=Kd.R_slice HO344.out;subst eo25)|((with_reducible refine gate_callee (f:=58) rfl ?_);refine goesL_ (some 42) rfl rfl Try.func58 (by kernel_rfl) rfl #[.slice Ao24 t339.length co24,.slice Ao25 t342.length co25] rfl (by (try simp only [List.map_toArray,List.map_cons,List.map_nil]);first|done|rfl|(simp only [List.length_drop,List.length_take];rfl)) ?_;(with_reducible refine (impl_WhoPlays.calls k _ _ t339 _ _ t342 t345 t346 _ ?side1 ?side2 ?side3 ?side4 A14.out).mono ?_);(case side1 => repeat (first|exact (Kd.S_reads' HO341.out).2.2|(with_reducible refine Kd.C_alloc ?_ _)|(with_reducible refine Kd.C_drewN ?_ _)|(with_reducible refine Kd.C_drew ?_)));(case side2 => exact (Kd.S_reads' HO341.out).2.1);(case side3 => repeat (first|exact (Kd.R_reads' HO344.out).2.2|(with_reducible refine Kd.C_alloc ?_ _)|(with_reducible refine Kd.C_drewN ?_ _)|(with_reducible refine Kd.C_drew ?_)));(case side4 => exact (Kd.R_reads' HO344.out).2.1);rintro e w26 ⟨v347,rfl,ho0,hb⟩;refine ⟨_,rfl,?_⟩;have n0_:=Aside0.mk (Kd.S_elder' (by (with_reducible repeat (first|apply Kd.S_alloc|apply Kd.S_drewN|apply Kd.S_drew));exact HO331.out) (Kd.R_base ho0) hb);have n1_:=Aside0.mk (Kd.R_below (by (with_reducible repeat (first|apply Kd.R_alloc|apply Kd.R_drewN|apply Kd.R_drew));exact HO334.out) hb);have n2_:=Aside0.mk (Kd.R_elder' (by (with_reducible repeat (first|apply Kd.R_alloc|apply Kd.R_drewN|apply Kd.R_drew));exact HO338.out) (Kd.R_base ho0) hb);have n3_:=Aside0.mk (Kd.S_elder' (by (with_reducible repeat (first|apply Kd.S_alloc|apply Kd.S_drewN|apply Kd.S_drew));exact HO341.out) (Kd.R_base ho0) hb);have n4_:=Aside0.mk (Kd.R_below (by (with_reducible repeat (first|apply Kd.R_alloc|apply Kd.R_drewN|apply Kd.R_drew));exact HO344.out) hb);have n5_:=Aside0.mk (Kd.R_lower (Kd.R_new' ho0 (Kd.R_lt (by (with_reducible repeat (first|apply Kd.R_alloc|apply Kd.R_drewN|apply Kd.R_drew));exact HO338.out))) (below_size (by repeat (first|(with_reducible first|exact HB.out|apply below_alloc|apply pw_below_drewN|apply below_drew1)|exact HB.out))));have n6_:=Aside0.mk (below_step (by repeat (first|(with_reducible first|exact HB.out|apply below_alloc|apply pw_below_drewN|apply below_drew1)|exact HB.out)) hb);clear HO331;clear HO334;clear HO338;clear HO341;clear HO344;clear HB;have HO331:=n0_;have HO334:=n1_;have HO338:=n2_;have HO341:=n3_;have HO344:=n4_;have HO348:=n5_;have HB:=n6_;clear n0_ n1_ n2_ n3_ n4_ n5_ n6_;(try clear hb);(try clear hb2);(try clear hk);(try clear hi);(try clear ho0)))
   (try simp only [Act.put,List.setIfInBounds_toArray,List.set_cons_zero,List.set_cons_succ])
   go_cut [53] (fun v53 wc => ∃ (kq : Nat) (x53_14 : Bool),v53 = .bool x53_14 ∧ Aside0 (laws_FnExactWhoPlays.j0 kq l0 l1 t335 t336 t339 t342 t345 t346 x53_14 = some r) ∧ Aside0 (kq ≤ k) ∧ Aside0 (Kd.R (Kd.int .i64) 3 wc w.heap.size (fun k_ => some k_ ≠ (v347 : Value).ownBlock) v337 t335) ∧ Aside0 (Kd.S k102 102 wc w.heap.size (fun k_ => some k_ ≠ (v337 : Value).ownBlock ∧ some k_ ≠ (v347 : Value).ownBlock) (.slice Ao24 t339.length co24) t339) ∧ Aside0 (Kd.R k85 85 wc w.heap.size (fun _ => True) (.slice Ao25 t342.length co25) t342) ∧ Aside0 (Kd.R (Kd.int .i64) 3 wc w.heap.size (fun k_ => some k_ ≠ (v337 : Value).ownBlock) v347 t345) ∧ Aside0 (Below w.heap.size w wc))
   case first =>
    have H:=HC15.out
    clear HC15;replace H:=Option.bind_eq_some_iff.mp H;obtain ⟨t349,A270,H⟩:=H;replace H : (if t349 = true then (laws_FnExactWhoPlays.j0 k l0 l1 t335 t336 t339 t342 t345 t346 (t346 != t336)) else (laws_FnExactWhoPlays.j0 k l0 l1 t335 t336 t339 t342 t345 t346 true)) = some r:=H;have A27:=Aside0.mk A270;clear A270;by_cases c28 : t349 = true
    ·
     subst c28;have H1 : (laws_FnExactWhoPlays.j0 k l0 l1 t335 t336 t339 t342 t345 t346 (t346 != t336)) = some r:=by rw [if_pos rfl] at H;exact H
     clear H;have H:=H1;clear H1;have H':=Aside0.mk H;clear H;obtain ⟨Ao29,co29,eo29⟩:=Kd.R_slice HO348.out;subst eo29;obtain ⟨Ao30,co30,eo30⟩:=Kd.R_slice HO338.out;subst eo30;go_wp2_with (first|((with_reducible refine gate_callee (f:=18) rfl ?_);refine goesL_ (some 47) rfl rfl Try.func18 (by kernel_rfl) rfl #[.slice Ao29 t345.length co29,.slice Ao30 t335.length co30] rfl (by (try simp only [List.map_toArray,List.map_cons,List.map_nil]);first|done|rfl|(simp only [List.length_drop,List.length_take];rfl)) ?_;(with_reducible refine (laws_eqIntS.calls k _ _ t345 _ _ t335 true _ ?side1 ?side2 ?side3 ?side4 A27.out).mono ?_);(case side1 => repeat (first|exact (Kd.R_reads' HO348.out).2.2|(with_reducible refine Kd.C_alloc ?_ _)|(with_reducible refine Kd.C_drewN ?_ _)|(with_reducible refine Kd.C_drew ?_)));(case side2 => exact (Kd.R_reads' HO348.out).2.1);(case side3 => repeat (first|exact (Kd.R_reads' HO338.out).2.2|(with_reducible refine Kd.C_alloc ?_ _)|(with_reducible refine Kd.C_drewN ?_ _)|(with_reducible refine Kd.C_drew ?_)));(case side4 => exact (Kd.R_reads' HO338.out).2.1);rintro e w' ⟨rfl,⟨nd,rfl⟩⟩;refine ⟨_,rfl,?_⟩))
     go_meet
     case rel => exact ⟨_,((t346 != t336)),(by first|rfl|(simp;done)|(simp [*];done)),H',⟨by first|omega|exact Nat.le_refl _⟩,⟨by (with_reducible repeat (first|apply Kd.R_alloc|apply Kd.R_drewN|apply Kd.R_drew));exact Kd.R_mono HO338.out (fun _ hk => hk.2)⟩,⟨by (with_reducible repeat (first|apply Kd.S_alloc|apply Kd.S_drewN|apply Kd.S_drew));exact Kd.S_mono HO341.out (fun _ hk => ⟨hk.1.2,hk.2⟩)⟩,⟨by (with_reducible repeat (first|apply Kd.R_alloc|apply Kd.R_drewN|apply Kd.R_drew));exact Kd.R_mono HO344.out (fun _ hk => trivial)⟩,⟨by (with_reducible repeat (first|apply Kd.R_alloc|apply Kd.R_drewN|apply Kd.R_drew));exact Kd.R_mono HO348.out (fun _ hk => hk.2)⟩,⟨by repeat (first|(with_reducible first|exact HB.out|apply below_alloc|apply pw_below_drewN|apply below_drew1)|exact HB.out)⟩⟩
    ·
     replace c28:=Bool.eq_false_iff.mpr c28
     subst c28;have H1 : (laws_FnExactWhoPlays.j0 k l0 l1 t335 t336 t339 t342 t345 t346 true) = some r:=by rw [if_neg (show ¬ (false = true) by decide)] at H;exact H
     clear H;have H:=H1;clear H1;have H':=Aside0.mk H;clear H;obtain ⟨Ao31,co31,eo31⟩:=Kd.R_slice HO348.out;subst eo31;obtain ⟨Ao32,co32,eo32⟩:=Kd.R_slice HO338.out;subst eo32;go_wp2_with (first|((with_reducible refine gate_callee (f:=18) rfl ?_);refine goesL_ (some 47) rfl rfl Try.func18 (by kernel_rfl) rfl #[.slice Ao31 t345.length co31,.slice Ao32 t335.length co32] rfl (by (try simp only [List.map_toArray,List.map_cons,List.map_nil]);first|done|rfl|(simp only [List.length_drop,List.length_take];rfl)) ?_;(with_reducible refine (laws_eqIntS.calls k _ _ t345 _ _ t335 false _ ?side1 ?side2 ?side3 ?side4 A27.out).mono ?_);(case side1 => repeat (first|exact (Kd.R_reads' HO348.out).2.2|(with_reducible refine Kd.C_alloc ?_ _)|(with_reducible refine Kd.C_drewN ?_ _)|(with_reducible refine Kd.C_drew ?_)));(case side2 => exact (Kd.R_reads' HO348.out).2.1);(case side3 => repeat (first|exact (Kd.R_reads' HO338.out).2.2|(with_reducible refine Kd.C_alloc ?_ _)|(with_reducible refine Kd.C_drewN ?_ _)|(with_reducible refine Kd.C_drew ?_)));(case side4 => exact (Kd.R_reads' HO338.out).2.1);rintro e w' ⟨rfl,⟨nd,rfl⟩⟩;refine ⟨_,rfl,?_⟩))
     go_meet
     case rel => exact ⟨_,(true),(by first|rfl|(simp;done)|(simp [*];done)),H',⟨by first|omega|exact Nat.le_refl _⟩,⟨by (with_reducible repeat (first|apply Kd.R_alloc|apply Kd.R_drewN|apply Kd.R_drew));exact Kd.R_mono HO338.out (fun _ hk => hk.2)⟩,⟨by (with_reducible repeat (first|apply Kd.S_alloc|apply Kd.S_drewN|apply Kd.S_drew));exact Kd.S_mono HO341.out (fun _ hk => ⟨hk.1.2,hk.2⟩)⟩,⟨by (with_reducible repeat (first|apply Kd.R_alloc|apply Kd.R_drewN|apply Kd.R_drew));exact Kd.R_mono HO344.out (fun _ hk => trivial)⟩,⟨by (with_reducible repeat (first|apply Kd.R_alloc|apply Kd.R_drewN|apply Kd.R_drew));exact Kd.R_mono HO348.out (fun _ hk => hk.2)⟩,⟨by repeat (first|(with_reducible first|exact HB.out|apply below_alloc|apply pw_below_drewN|apply below_drew1)|exact HB.out)⟩⟩
   case rest =>
    clear HC15;try clear c1
    try clear c2
    try clear p2
    try clear c3
    try clear c4
    try clear c4b0
    try clear c5
    try clear c7
    try clear c7b0
    try clear c9
    try clear c14
    try clear c16
    try clear c18
    try clear c28
    try clear c31
    obtain ⟨kq,x53_14,rfl,HA,HJ14,HO_6,HO_8,HO_9,HO_10,HB⟩:=hcut
    cases kq with
    | zero => exact absurd HA.out (by simp [laws_FnExactWhoPlays.j0])
    | succ kj14 =>
     have H:=HA.out
     clear HA;simp only [laws_FnExactWhoPlays.j0] at H;by_cases c33 : x53_14 = true
     ·
      subst c33;have H1 : (some false) = some r:=by rw [if_pos rfl] at H;exact H
      clear H;have H:=H1;clear H1;obtain rfl:=Option.some.inj H;go_wp2;go_ret;exact ⟨by first|rfl|(simp [errW_none,errW_some] <;> rfl)|(simp [*,errW_none,errW_some] <;> rfl),by repeat (first|(with_reducible first|exact HB.out|apply below_alloc|apply pw_below_drewN|apply below_drew1)|exact HB.out)⟩
     ·
      replace c33:=Bool.eq_false_iff.mpr c33
      subst c33;have H1 : ((laws_toInstrumentS.f kj14 l0).bind fun t350 => ((laws_eqInstrumentS.f kj14 t339 t350).bind fun t353 => (if t353 = true then ((laws_toNoteS.f kj14 l1).bind fun t354 => ((laws_eqNoteS.f kj14 t342 t354).bind fun t357 => (if t357 = true then ((laws_markInstrumentS.f kj14 t339 1).bind fun t358 => ((laws_markNoteS.f kj14 t342 t358).bind fun bt359 => (if bt359.1 < 0 then (laws_FnExactWhoPlays.j1 kj14 l0 l1 t335 t336 t345 true) else ((laws_eqIntS.f kj14 t345 t335).bind fun t361 => (if t361 = true then (laws_FnExactWhoPlays.j1 kj14 l0 l1 t335 t336 t345 (t346 != t336)) else (laws_FnExactWhoPlays.j1 kj14 l0 l1 t335 t336 t345 true)))))) else (some false)))) else (some false)))) = some r:=by rw [if_neg (show ¬ (false = true) by decide)] at H;exact H
      clear H;have H:=H1;clear H1;replace H:=Option.bind_eq_some_iff.mp H;obtain ⟨t350,A340,H⟩:=H;replace H : ((laws_eqInstrumentS.f kj14 t339 t350).bind fun t353 => (if t353 = true then ((laws_toNoteS.f kj14 l1).bind fun t354 => ((laws_eqNoteS.f kj14 t342 t354).bind fun t357 => (if t357 = true then ((laws_markInstrumentS.f kj14 t339 1).bind fun t358 => ((laws_markNoteS.f kj14 t342 t358).bind fun bt359 => (if bt359.1 < 0 then (laws_FnExactWhoPlays.j1 kj14 l0 l1 t335 t336 t345 true) else ((laws_eqIntS.f kj14 t345 t335).bind fun t361 => (if t361 = true then (laws_FnExactWhoPlays.j1 kj14 l0 l1 t335 t336 t345 (t346 != t336)) else (laws_FnExactWhoPlays.j1 kj14 l0 l1 t335 t336 t345 true)))))) else (some false)))) else (some false))) = some r:=H
      have A34:=Aside0.mk A340;clear A340;replace H:=Option.bind_eq_some_iff.mp H;obtain ⟨t353,A350,H⟩:=H;replace H : (if t353 = true then ((laws_toNoteS.f kj14 l1).bind fun t354 => ((laws_eqNoteS.f kj14 t342 t354).bind fun t357 => (if t357 = true then ((laws_markInstrumentS.f kj14 t339 1).bind fun t358 => ((laws_markNoteS.f kj14 t342 t358).bind fun bt359 => (if bt359.1 < 0 then (laws_FnExactWhoPlays.j1 kj14 l0 l1 t335 t336 t345 true) else ((laws_eqIntS.f kj14 t345 t335).bind fun t361 => (if t361 = true then (laws_FnExactWhoPlays.j1 kj14 l0 l1 t335 t336 t345 (t346 != t336)) else (laws_FnExactWhoPlays.j1 kj14 l0 l1 t335 t336 t345 true)))))) else (some false)))) else (some false)) = some r:=H
      have A35:=Aside0.mk A350;clear A350;by_cases c36 : t353 = true
      ·
       subst c36;have H1 : ((laws_toNoteS.f kj14 l1).bind fun t354 => ((laws_eqNoteS.f kj14 t342 t354).bind fun t357 => (if t357 = true then ((laws_markInstrumentS.f kj14 t339 1).bind fun t358 => ((laws_markNoteS.f kj14 t342 t358).bind fun bt359 => (if bt359.1 < 0 then (laws_FnExactWhoPlays.j1 kj14 l0 l1 t335 t336 t345 true) else ((laws_eqIntS.f kj14 t345 t335).bind fun t361 => (if t361 = true then (laws_FnExactWhoPlays.j1 kj14 l0 l1 t335 t336 t345 (t346 != t336)) else (laws_FnExactWhoPlays.j1 kj14 l0 l1 t335 t336 t345 true)))))) else (some false)))) = some r:=by rw [if_pos rfl] at H;exact H
       clear H;have H:=H1;clear H1;replace H:=Option.bind_eq_some_iff.mp H;obtain ⟨t354,A370,H⟩:=H;replace H : ((laws_eqNoteS.f kj14 t342 t354).bind fun t357 => (if t357 = true then ((laws_markInstrumentS.f kj14 t339 1).bind fun t358 => ((laws_markNoteS.f kj14 t342 t358).bind fun bt359 => (if bt359.1 < 0 then (laws_FnExactWhoPlays.j1 kj14 l0 l1 t335 t336 t345 true) else ((laws_eqIntS.f kj14 t345 t335).bind fun t361 => (if t361 = true then (laws_FnExactWhoPlays.j1 kj14 l0 l1 t335 t336 t345 (t346 != t336)) else (laws_FnExactWhoPlays.j1 kj14 l0 l1 t335 t336 t345 true)))))) else (some false))) = some r:=H
       have A37:=Aside0.mk A370;clear A370;replace H:=Option.bind_eq_some_iff.mp H;obtain ⟨t357,A380,H⟩:=H;replace H : (if t357 = true then ((laws_markInstrumentS.f kj14 t339 1).bind fun t358 => ((laws_markNoteS.f kj14 t342 t358).bind fun bt359 => (if bt359.1 < 0 then (laws_FnExactWhoPlays.j1 kj14 l0 l1 t335 t336 t345 true) else ((laws_eqIntS.f kj14 t345 t335).bind fun t361 => (if t361 = true then (laws_FnExactWhoPlays.j1 kj14 l0 l1 t335 t336 t345 (t346 != t336)) else (laws_FnExactWhoPlays.j1 kj14 l0 l1 t335 t336 t345 true)))))) else (some false)) = some r:=H
       have A38:=Aside0.mk A380;clear A380;by_cases c39 : t357 = true
       ·
        subst c39;have H1 : ((laws_markInstrumentS.f kj14 t339 1).bind fun t358 => ((laws_markNoteS.f kj14 t342 t358).bind fun bt359 => (if bt359.1 < 0 then (laws_FnExactWhoPlays.j1 kj14 l0 l1 t335 t336 t345 true) else ((laws_eqIntS.f kj14 t345 t335).bind fun t361 => (if t361 = true then (laws_FnExactWhoPlays.j1 kj14 l0 l1 t335 t336 t345 (t346 != t336)) else (laws_FnExactWhoPlays.j1 kj14 l0 l1 t335 t336 t345 true)))))) = some r:=by rw [if_pos rfl] at H;exact H
        clear H;have H:=H1;clear H1;replace H:=Option.bind_eq_some_iff.mp H;obtain ⟨t358,A400,H⟩:=H;replace H : ((laws_markNoteS.f kj14 t342 t358).bind fun bt359 => (if bt359.1 < 0 then (laws_FnExactWhoPlays.j1 kj14 l0 l1 t335 t336 t345 true) else ((laws_eqIntS.f kj14 t345 t335).bind fun t361 => (if t361 = true then (laws_FnExactWhoPlays.j1 kj14 l0 l1 t335 t336 t345 (t346 != t336)) else (laws_FnExactWhoPlays.j1 kj14 l0 l1 t335 t336 t345 true))))) = some r:=H
        have A40:=Aside0.mk A400;clear A400;replace H:=Option.bind_eq_some_iff.mp H;obtain ⟨⟨t359,t360⟩,A410,H⟩:=H;replace H : (if t359 < 0 then (laws_FnExactWhoPlays.j1 kj14 l0 l1 t335 t336 t345 true) else ((laws_eqIntS.f kj14 t345 t335).bind fun t361 => (if t361 = true then (laws_FnExactWhoPlays.j1 kj14 l0 l1 t335 t336 t345 (t346 != t336)) else (laws_FnExactWhoPlays.j1 kj14 l0 l1 t335 t336 t345 true)))) = some r:=H
        have A41:=Aside0.mk A410;clear A410;have HC42:=Aside0.mk H;clear H;go_upto_region 21 with (first|((with_reducible refine gate_callee (f:=33) rfl ?_);refine goesL_ (some 56) rfl rfl Try.func33 (by kernel_rfl) rfl #[.slice A0 l0.length c0] rfl (by (try simp only [List.map_toArray,List.map_cons,List.map_nil]);first|done|rfl|(simp only [List.length_drop,List.length_take];rfl)) ?_;(with_reducible refine (laws_toInstrumentS.calls kj14 _ _ l0 t350 _ ?side1 ?side2 A34.out).mono ?_);(case side1 => repeat (first|exact (Kd.C_below HR0.out HB.out)|(with_reducible refine Kd.C_alloc ?_ _)|(with_reducible refine Kd.C_drewN ?_ _)|(with_reducible refine Kd.C_drew ?_)));(case side2 => exact HC0.out);rintro e w43 ⟨v351,rfl,ho0,hb⟩;refine ⟨_,rfl,?_⟩;have n0_:=Aside0.mk (Kd.R_below (by (with_reducible repeat (first|apply Kd.R_alloc|apply Kd.R_drewN|apply Kd.R_drew));exact HO_6.out) hb);have n1_:=Aside0.mk (Kd.S_elder' (by (with_reducible repeat (first|apply Kd.S_alloc|apply Kd.S_drewN|apply Kd.S_drew));exact HO_8.out) (Kd.S_base ho0) hb);have n2_:=Aside0.mk (Kd.R_below (by (with_reducible repeat (first|apply Kd.R_alloc|apply Kd.R_drewN|apply Kd.R_drew));exact HO_9.out) hb);have n3_:=Aside0.mk (Kd.R_below (by (with_reducible repeat (first|apply Kd.R_alloc|apply Kd.R_drewN|apply Kd.R_drew));exact HO_10.out) hb);have n4_:=Aside0.mk (Kd.S_lower (Kd.S_new' (Kd.S_new' (Kd.S_new' ho0 (Kd.R_lt (by (with_reducible repeat (first|apply Kd.R_alloc|apply Kd.R_drewN|apply Kd.R_drew));exact HO_6.out))) (Kd.S_lt (by (with_reducible repeat (first|apply Kd.S_alloc|apply Kd.S_drewN|apply Kd.S_drew));exact HO_8.out))) (Kd.R_lt (by (with_reducible repeat (first|apply Kd.R_alloc|apply Kd.R_drewN|apply Kd.R_drew));exact HO_10.out))) (below_size (by repeat (first|(with_reducible first|exact HB.out|apply below_alloc|apply pw_below_drewN|apply below_drew1)|exact HB.out))));have n5_:=Aside0.mk (below_step (by repeat (first|(with_reducible first|exact HB.out|apply below_alloc|apply pw_below_drewN|apply below_drew1)|exact HB.out)) hb);clear HO_6;clear HO_8;clear HO_9;clear HO_10;clear HB;have HO_6:=n0_;have HO_8:=n1_;have HO_9:=n2_;have HO_10:=n3_;have HO352:=n4_;have HB:=n5_;clear n0_ n1_ n2_ n3_ n4_ n5_;(try clear hb);(try clear hb2);(try clear hk);(try clear hi);(try clear ho0);obtain ⟨Ao44,co44,eo44⟩:=Kd.S_slice HO352.out;subst eo44)|((with_reducible refine gate_callee (f:=35) rfl ?_);refine goesL_ (some 57) rfl rfl Try.func35 (by kernel_rfl) rfl #[.slice Ao24 t339.length co24,.slice Ao44 t350.length co44] rfl (by (try simp only [List.map_toArray,List.map_cons,List.map_nil]);first|done|rfl|(simp only [List.length_drop,List.length_take];rfl)) ?_;(with_reducible refine (laws_eqInstrumentS.calls kj14 _ _ t339 _ _ t350 true _ ?side1 ?side2 ?side3 ?side4 A35.out).mono ?_);(case side1 => repeat (first|exact (Kd.S_reads' HO_8.out).2.2|(with_reducible refine Kd.C_alloc ?_ _)|(with_reducible refine Kd.C_drewN ?_ _)|(with_reducible refine Kd.C_drew ?_)));(case side2 => exact (Kd.S_reads' HO_8.out).2.1);(case side3 => repeat (first|exact (Kd.S_reads' HO352.out).2.2|(with_reducible refine Kd.C_alloc ?_ _)|(with_reducible refine Kd.C_drewN ?_ _)|(with_reducible refine Kd.C_drew ?_)));(case side4 => exact (Kd.S_reads' HO352.out).2.1);rintro e w45 ⟨rfl,hb⟩;refine ⟨_,rfl,?_⟩;have n0_:=Aside0.mk (Kd.R_below (by (with_reducible repeat (first|apply Kd.R_alloc|apply Kd.R_drewN|apply Kd.R_drew));exact HO_6.out) hb);have n1_:=Aside0.mk (Kd.S_below (by (with_reducible repeat (first|apply Kd.S_alloc|apply Kd.S_drewN|apply Kd.S_drew));exact HO_8.out) hb);have n2_:=Aside0.mk (Kd.R_below (by (with_reducible repeat (first|apply Kd.R_alloc|apply Kd.R_drewN|apply Kd.R_drew));exact HO_9.out) hb);have n3_:=Aside0.mk (Kd.R_below (by (with_reducible repeat (first|apply Kd.R_alloc|apply Kd.R_drewN|apply Kd.R_drew));exact HO_10.out) hb);have n4_:=Aside0.mk (Kd.S_below (by (with_reducible repeat (first|apply Kd.S_alloc|apply Kd.S_drewN|apply Kd.S_drew));exact HO352.out) hb);have n5_:=Aside0.mk (below_step (by repeat (first|(with_reducible first|exact HB.out|apply below_alloc|apply pw_below_drewN|apply below_drew1)|exact HB.out)) hb);clear HO_6;clear HO_8;clear HO_9;clear HO_10;clear HO352;clear HB;have HO_6:=n0_;have HO_8:=n1_;have HO_9:=n2_;have HO_10:=n3_;have HO352:=n4_;have HB:=n5_;clear n0_ n1_ n2_ n3_ n4_ n5_;(try clear hb);(try clear hb2);(try clear hk);(try clear hi))|((with_reducible refine gate_callee (f:=16) rfl ?_);refine goesL_ (some 61) rfl rfl Try.func16 (by kernel_rfl) rfl #[.slice A1 l1.length c1] rfl (by (try simp only [List.map_toArray,List.map_cons,List.map_nil]);first|done|rfl|(simp only [List.length_drop,List.length_take];rfl)) ?_;(with_reducible refine (laws_toNoteS.calls kj14 _ _ l1 t354 _ ?side1 ?side2 A37.out).mono ?_);(case side1 => repeat (first|exact (Kd.C_below HR1.out HB.out)|(with_reducible refine Kd.C_alloc ?_ _)|(with_reducible refine Kd.C_drewN ?_ _)|(with_reducible refine Kd.C_drew ?_)));(case side2 => exact HC1.out);rintro e w46 ⟨v355,rfl,ho0,hb⟩;refine ⟨_,rfl,?_⟩;have n0_:=Aside0.mk (Kd.R_below (by (with_reducible repeat (first|apply Kd.R_alloc|apply Kd.R_drewN|apply Kd.R_drew));exact HO_6.out) hb);have n1_:=Aside0.mk (Kd.S_below (by (with_reducible repeat (first|apply Kd.S_alloc|apply Kd.S_drewN|apply Kd.S_drew));exact HO_8.out) hb);have n2_:=Aside0.mk (Kd.R_elder' (by (with_reducible repeat (first|apply Kd.R_alloc|apply Kd.R_drewN|apply Kd.R_drew));exact HO_9.out) (Kd.R_base ho0) hb);have n3_:=Aside0.mk (Kd.R_below (by (with_reducible repeat (first|apply Kd.R_alloc|apply Kd.R_drewN|apply Kd.R_drew));exact HO_10.out) hb);have n4_:=Aside0.mk (Kd.S_below (by (with_reducible repeat (first|apply Kd.S_alloc|apply Kd.S_drewN|apply Kd.S_drew));exact HO352.out) hb);have n5_:=Aside0.mk (Kd.R_lower (Kd.R_new' ho0 (Kd.R_lt (by (with_reducible repeat (first|apply Kd.R_alloc|apply Kd.R_drewN|apply Kd.R_drew));exact HO_9.out))) (below_size (by repeat (first|(with_reducible first|exact HB.out|apply below_alloc|apply pw_below_drewN|apply below_drew1)|exact HB.out))));have n6_:=Aside0.mk (below_step (by repeat (first|(with_reducible first|exact HB.out|apply below_alloc|apply pw_below_drewN|apply below_drew1)|exact HB.out)) hb);clear HO_6;clear HO_8;clear HO_9;clear HO_10;clear HO352;clear HB;have HO_6:=n0_;have HO_8:=n1_;have HO_9:=n2_;have HO_10:=n3_;have HO352:=n4_;have HO356:=n5_;have HB:=n6_;clear n0_ n1_ n2_ n3_ n4_ n5_ n6_;(try clear hb);(try clear hb2);(try clear hk);(try clear hi);(try clear ho0);obtain ⟨Ao47,co47,eo47⟩:=Kd.R_slice HO356.out;subst eo47)|((with_reducible refine gate_callee (f:=19) rfl ?_);refine goesL_ (some 62) rfl rfl Try.func19 (by kernel_rfl) rfl #[.slice Ao25 t342.length co25,.slice Ao47 t354.length co47] rfl (by (try simp only [List.map_toArray,List.map_cons,List.map_nil]);first|done|rfl|(simp only [List.length_drop,List.length_take];rfl)) ?_;(with_reducible refine (laws_eqNoteS.calls kj14 _ _ t342 _ _ t354 true _ ?side1 ?side2 ?side3 ?side4 A38.out).mono ?_);(case side1 => repeat (first|exact (Kd.R_reads' HO_9.out).2.2|(with_reducible refine Kd.C_alloc ?_ _)|(with_reducible refine Kd.C_drewN ?_ _)|(with_reducible refine Kd.C_drew ?_)));(case side2 => exact (Kd.R_reads' HO_9.out).2.1);(case side3 => repeat (first|exact (Kd.R_reads' HO356.out).2.2|(with_reducible refine Kd.C_alloc ?_ _)|(with_reducible refine Kd.C_drewN ?_ _)|(with_reducible refine Kd.C_drew ?_)));(case side4 => exact (Kd.R_reads' HO356.out).2.1);rintro e w48 ⟨rfl,hb⟩;refine ⟨_,rfl,?_⟩;have n0_:=Aside0.mk (Kd.R_below (by (with_reducible repeat (first|apply Kd.R_alloc|apply Kd.R_drewN|apply Kd.R_drew));exact HO_6.out) hb);have n1_:=Aside0.mk (Kd.S_below (by (with_reducible repeat (first|apply Kd.S_alloc|apply Kd.S_drewN|apply Kd.S_drew));exact HO_8.out) hb);have n2_:=Aside0.mk (Kd.R_below (by (with_reducible repeat (first|apply Kd.R_alloc|apply Kd.R_drewN|apply Kd.R_drew));exact HO_9.out) hb);have n3_:=Aside0.mk (Kd.R_below (by (with_reducible repeat (first|apply Kd.R_alloc|apply Kd.R_drewN|apply Kd.R_drew));exact HO_10.out) hb);have n4_:=Aside0.mk (Kd.S_below (by (with_reducible repeat (first|apply Kd.S_alloc|apply Kd.S_drewN|apply Kd.S_drew));exact HO352.out) hb);have n5_:=Aside0.mk (Kd.R_below (by (with_reducible repeat (first|apply Kd.R_alloc|apply Kd.R_drewN|apply Kd.R_drew));exact HO356.out) hb);have n6_:=Aside0.mk (below_step (by repeat (first|(with_reducible first|exact HB.out|apply below_alloc|apply pw_below_drewN|apply below_drew1)|exact HB.out)) hb);clear HO_6;clear HO_8;clear HO_9;clear HO_10;clear HO352;clear HO356;clear HB;have HO_6:=n0_;have HO_8:=n1_;have HO_9:=n2_;have HO_10:=n3_;have HO352:=n4_;have HO356:=n5_;have HB:=n6_;clear n0_ n1_ n2_ n3_ n4_ n5_ n6_;(try clear hb);(try clear hb2);(try clear hk);(try clear hi))|(go_at_call 59;(with_reducible refine (laws_markInstrumentS.calls kj14 ?P0_ _ t339 1 t358 w _ ?side1 ?side2 A40.out).mono ?_);(case side1 => repeat (first|(with_reducible first|exact HB.out|apply below_alloc|apply pw_below_drewN|apply below_drew1)|exact HB.out));(case side2 => (with_reducible repeat (first|apply Kd.S_alloc|apply Kd.S_drewN|apply Kd.S_drew));exact (Kd.S_apart' HO_8.out (Kd.R_typed HO_9.out) (by decide)));rintro e wm_ ⟨rfl,hbm_,hkp⟩;(try (have nz_:=Aside0.mk (Kd.R_reok rfl (Kd.R_keptB (Kd.R_tight rfl (by (with_reducible repeat (first|apply Kd.R_alloc|apply Kd.R_drewN|apply Kd.R_drew));exact HO_10.out)) hkp (fun k_ hk_ hs_ => by first|exact hs_ hk_|exact hs_.1 hk_|exact hs_.2 hk_|exact hs_.1.1 hk_|exact hs_.1.2 hk_|exact hs_.2.1 hk_|exact hs_.2.2 hk_|exact hs_.1.1.1 hk_|exact hs_.1.1.2 hk_|exact hs_.1.2.1 hk_|exact hs_.1.2.2 hk_|exact hs_.2.1.2 hk_|exact hs_.2.2.1 hk_|exact hs_.2.2.2 hk_|exact hs_.1.1.1.1 hk_|exact hs_.1.1.1.2 hk_|exact hs_.1.1.2.1 hk_|exact hs_.1.1.2.2 hk_|exact hs_.2.2.1.2 hk_|exact hs_.2.2.2.1 hk_|exact hs_.2.2.2.2 hk_|exact hs_.1.1.1.1.1 hk_|exact hs_.1.1.1.1.2 hk_|exact hs_.1.1.1.2.1 hk_|exact hs_.1.1.1.2.2 hk_|exact hs_.2.2.2.1.2 hk_|exact hs_.2.2.2.2.1 hk_|exact hs_.1.1.1.1.1.1 hk_|exact hs_.1.1.1.1.1.2 hk_|exact hs_.1.1.1.1.2.1 hk_|exact hs_.1.1.1.1.2.2 hk_|exact hs_.2.2.2.2.1.2 hk_|exact hs_.1.1.1.1.1.1.2 hk_|exact hs_.1.1.1.1.1.2.1 hk_|exact hs_.1.1.1.1.1.2.2 hk_|exact hs_.1.1.1.1.1.1.2.1 hk_|exact hs_.1.1.1.1.1.1.2.2 hk_)) (fun k_ e_ => HO_10.out.1 k_ e_));clear HO_10;have HO_10:=nz_;clear nz_));(try (have nz_:=Aside0.mk (Kd.R_reok rfl (Kd.R_keptB (Kd.R_tight rfl (by (with_reducible repeat (first|apply Kd.R_alloc|apply Kd.R_drewN|apply Kd.R_drew));exact HO_6.out)) hkp (fun k_ hk_ hs_ => by first|exact hs_ hk_|exact hs_.1 hk_|exact hs_.2 hk_|exact hs_.1.1 hk_|exact hs_.1.2 hk_|exact hs_.2.1 hk_|exact hs_.2.2 hk_|exact hs_.1.1.1 hk_|exact hs_.1.1.2 hk_|exact hs_.1.2.1 hk_|exact hs_.1.2.2 hk_|exact hs_.2.1.2 hk_|exact hs_.2.2.1 hk_|exact hs_.2.2.2 hk_|exact hs_.1.1.1.1 hk_|exact hs_.1.1.1.2 hk_|exact hs_.1.1.2.1 hk_|exact hs_.1.1.2.2 hk_|exact hs_.2.2.1.2 hk_|exact hs_.2.2.2.1 hk_|exact hs_.2.2.2.2 hk_|exact hs_.1.1.1.1.1 hk_|exact hs_.1.1.1.1.2 hk_|exact hs_.1.1.1.2.1 hk_|exact hs_.1.1.1.2.2 hk_|exact hs_.2.2.2.1.2 hk_|exact hs_.2.2.2.2.1 hk_|exact hs_.1.1.1.1.1.1 hk_|exact hs_.1.1.1.1.1.2 hk_|exact hs_.1.1.1.1.2.1 hk_|exact hs_.1.1.1.1.2.2 hk_|exact hs_.2.2.2.2.1.2 hk_|exact hs_.1.1.1.1.1.1.2 hk_|exact hs_.1.1.1.1.1.2.1 hk_|exact hs_.1.1.1.1.1.2.2 hk_|exact hs_.1.1.1.1.1.1.2.1 hk_|exact hs_.1.1.1.1.1.1.2.2 hk_)) (fun k_ e_ => HO_6.out.1 k_ e_));clear HO_6;have HO_6:=nz_;clear nz_));(try (have nz_:=Aside0.mk (Kd.R_reok rfl (Kd.R_keptB (Kd.R_tight rfl (by (with_reducible repeat (first|apply Kd.R_alloc|apply Kd.R_drewN|apply Kd.R_drew));exact HO_9.out)) hkp (fun k_ hk_ hs_ => by first|exact hs_ hk_|exact hs_.1 hk_|exact hs_.2 hk_|exact hs_.1.1 hk_|exact hs_.1.2 hk_|exact hs_.2.1 hk_|exact hs_.2.2 hk_|exact hs_.1.1.1 hk_|exact hs_.1.1.2 hk_|exact hs_.1.2.1 hk_|exact hs_.1.2.2 hk_|exact hs_.2.1.2 hk_|exact hs_.2.2.1 hk_|exact hs_.2.2.2 hk_|exact hs_.1.1.1.1 hk_|exact hs_.1.1.1.2 hk_|exact hs_.1.1.2.1 hk_|exact hs_.1.1.2.2 hk_|exact hs_.2.2.1.2 hk_|exact hs_.2.2.2.1 hk_|exact hs_.2.2.2.2 hk_|exact hs_.1.1.1.1.1 hk_|exact hs_.1.1.1.1.2 hk_|exact hs_.1.1.1.2.1 hk_|exact hs_.1.1.1.2.2 hk_|exact hs_.2.2.2.1.2 hk_|exact hs_.2.2.2.2.1 hk_|exact hs_.1.1.1.1.1.1 hk_|exact hs_.1.1.1.1.1.2 hk_|exact hs_.1.1.1.1.2.1 hk_|exact hs_.1.1.1.1.2.2 hk_|exact hs_.2.2.2.2.1.2 hk_|exact hs_.1.1.1.1.1.1.2 hk_|exact hs_.1.1.1.1.1.2.1 hk_|exact hs_.1.1.1.1.1.2.2 hk_|exact hs_.1.1.1.1.1.1.2.1 hk_|exact hs_.1.1.1.1.1.1.2.2 hk_)) (fun k_ e_ => HO_9.out.1 k_ e_));clear HO_9;have HO_9:=nz_;clear nz_));clear HB;have HB:=Aside0.mk hbm_;clear hbm_ hkp)|(go_at_call 20;(with_reducible refine (laws_markNoteS.calls kj14 (fun k_ => some k_ = (.slice Ao25 t342.length co25 : Value).ownBlock) (.slice Ao25 t342.length co25) t342 t358 t359 t360 w _ ?side1 ?side2 A41.out).mono ?_);(case side1 => repeat (first|(with_reducible first|exact HB.out|apply below_alloc|apply pw_below_drewN|apply below_drew1)|exact HB.out));(case side2 => exact Kd.R_tight rfl HO_9.out);rintro e w49 ⟨rfl,hy0,hb,hkp⟩;have n0_:=Aside0.mk (Kd.R_mono (ok':=fun k_ => some k_ ≠ (v347 : Value).ownBlock) (Kd.R_keptB ((Kd.R_apart' HO_6.out (Kd.R_typed HO_9.out) (by decide))) hkp (fun k_ hk_ hs_ => (hk_.2) hs_)) (fun k_ hk_ => hk_.1.1));have n2_:=Aside0.mk (Kd.R_reok rfl hy0 (fun k_ e_ => HO_9.out.1 k_ e_));have n3_:=Aside0.mk (Kd.R_mono (ok':=fun k_ => some k_ ≠ (v337 : Value).ownBlock) (Kd.R_keptB ((Kd.R_apart' HO_10.out (Kd.R_typed HO_9.out) (by decide))) hkp (fun k_ hk_ hs_ => (hk_.2) hs_)) (fun k_ hk_ => hk_.1.1));have n6_:=Aside0.mk (hb);clear HO_6;clear HO_9;clear HO_10;clear HB;have HO_6:=n0_;have HO_9:=n2_;have HO_10:=n3_;have HB:=n6_;clear n0_ n2_ n3_ n6_;(try clear hb);(try clear hkp);(try clear hy0)))
        (try simp only [Act.put,List.setIfInBounds_toArray,List.set_cons_zero,List.set_cons_succ])
        go_cut [82] (fun v82 wc => ∃ (kq : Nat) (x82_41 : Bool),v82 = .bool x82_41 ∧ Aside0 (laws_FnExactWhoPlays.j1 kq l0 l1 t335 t336 t345 x82_41 = some r) ∧ Aside0 (kq ≤ kj14) ∧ Aside0 (Kd.R (Kd.int .i64) 3 wc w.heap.size (fun k_ => some k_ ≠ (v347 : Value).ownBlock) v337 t335) ∧ Aside0 (Kd.R (Kd.int .i64) 3 wc w.heap.size (fun k_ => some k_ ≠ (v337 : Value).ownBlock) v347 t345) ∧ Aside0 (Below w.heap.size w wc))
        case first =>
         have H:=HC42.out
         clear HC42;by_cases c50 : t359 < 0
         ·
          rw [if_pos c50] at H
          have c50b0 : decide (t359 < 0) = true:=decide_eq_true c50
          clear c50;(first|rw [c50b0]|(simp only [i64_w,i32_w];rw [c50b0])|skip)
          have H':=Aside0.mk H
          clear H;go_wp2;go_meet
          case rel => exact ⟨_,(true),(by first|rfl|(simp;done)|(simp [*];done)),H',⟨by have:=HJ14.out;first|omega|exact Nat.le_refl _⟩,⟨by (with_reducible repeat (first|apply Kd.R_alloc|apply Kd.R_drewN|apply Kd.R_drew));exact HO_6.out⟩,⟨by (with_reducible repeat (first|apply Kd.R_alloc|apply Kd.R_drewN|apply Kd.R_drew));exact HO_10.out⟩,⟨by repeat (first|(with_reducible first|exact HB.out|apply below_alloc|apply pw_below_drewN|apply below_drew1)|exact HB.out)⟩⟩
         ·
          rw [if_neg c50] at H
          have c50b0 : decide (t359 < 0) = false:=decide_eq_false c50
          clear c50;(first|rw [c50b0]|(simp only [i64_w,i32_w];rw [c50b0])|skip)
          replace H:=Option.bind_eq_some_iff.mp H
          obtain ⟨t361,A510,H⟩:=H
          replace H : (if t361 = true then (laws_FnExactWhoPlays.j1 kj14 l0 l1 t335 t336 t345 (t346 != t336)) else (laws_FnExactWhoPlays.j1 kj14 l0 l1 t335 t336 t345 true)) = some r:=H
          have A51:=Aside0.mk A510;clear A510;by_cases c52 : t361 = true
          ·
           subst c52;have H1 : (laws_FnExactWhoPlays.j1 kj14 l0 l1 t335 t336 t345 (t346 != t336)) = some r:=by rw [if_pos rfl] at H;exact H
           clear H;have H:=H1;clear H1;have H':=Aside0.mk H;clear H;obtain ⟨Ao53,co53,eo53⟩:=Kd.R_slice HO_10.out;subst eo53;obtain ⟨Ao54,co54,eo54⟩:=Kd.R_slice HO_6.out;subst eo54;go_wp2_with (first|(go_at_call 18;(with_reducible refine (laws_eqIntS.calls kj14 _ _ t345 _ _ t335 true _ ?side1 ?side2 ?side3 ?side4 A51.out).mono ?_);(case side1 => repeat (first|exact (Kd.R_reads' HO_10.out).2.2|(with_reducible refine Kd.C_alloc ?_ _)|(with_reducible refine Kd.C_drewN ?_ _)|(with_reducible refine Kd.C_drew ?_)));(case side2 => exact (Kd.R_reads' HO_10.out).2.1);(case side3 => repeat (first|exact (Kd.R_reads' HO_6.out).2.2|(with_reducible refine Kd.C_alloc ?_ _)|(with_reducible refine Kd.C_drewN ?_ _)|(with_reducible refine Kd.C_drew ?_)));(case side4 => exact (Kd.R_reads' HO_6.out).2.1);rintro e w' ⟨rfl,⟨nd,rfl⟩⟩))
           go_meet
           case rel => exact ⟨_,((t346 != t336)),(by first|rfl|(simp;done)|(simp [*];done)),H',⟨by have:=HJ14.out;first|omega|exact Nat.le_refl _⟩,⟨by (with_reducible repeat (first|apply Kd.R_alloc|apply Kd.R_drewN|apply Kd.R_drew));exact HO_6.out⟩,⟨by (with_reducible repeat (first|apply Kd.R_alloc|apply Kd.R_drewN|apply Kd.R_drew));exact HO_10.out⟩,⟨by repeat (first|(with_reducible first|exact HB.out|apply below_alloc|apply pw_below_drewN|apply below_drew1)|exact HB.out)⟩⟩
          ·
           replace c52:=Bool.eq_false_iff.mpr c52
           subst c52;have H1 : (laws_FnExactWhoPlays.j1 kj14 l0 l1 t335 t336 t345 true) = some r:=by rw [if_neg (show ¬ (false = true) by decide)] at H;exact H
           clear H;have H:=H1;clear H1;have H':=Aside0.mk H;clear H;obtain ⟨Ao55,co55,eo55⟩:=Kd.R_slice HO_10.out;subst eo55;obtain ⟨Ao56,co56,eo56⟩:=Kd.R_slice HO_6.out;subst eo56;go_wp2_with (first|(go_at_call 18;(with_reducible refine (laws_eqIntS.calls kj14 _ _ t345 _ _ t335 false _ ?side1 ?side2 ?side3 ?side4 A51.out).mono ?_);(case side1 => repeat (first|exact (Kd.R_reads' HO_10.out).2.2|(with_reducible refine Kd.C_alloc ?_ _)|(with_reducible refine Kd.C_drewN ?_ _)|(with_reducible refine Kd.C_drew ?_)));(case side2 => exact (Kd.R_reads' HO_10.out).2.1);(case side3 => repeat (first|exact (Kd.R_reads' HO_6.out).2.2|(with_reducible refine Kd.C_alloc ?_ _)|(with_reducible refine Kd.C_drewN ?_ _)|(with_reducible refine Kd.C_drew ?_)));(case side4 => exact (Kd.R_reads' HO_6.out).2.1);rintro e w' ⟨rfl,⟨nd,rfl⟩⟩))
           go_meet
           case rel => exact ⟨_,(true),(by first|rfl|(simp;done)|(simp [*];done)),H',⟨by have:=HJ14.out;first|omega|exact Nat.le_refl _⟩,⟨by (with_reducible repeat (first|apply Kd.R_alloc|apply Kd.R_drewN|apply Kd.R_drew));exact HO_6.out⟩,⟨by (with_reducible repeat (first|apply Kd.R_alloc|apply Kd.R_drewN|apply Kd.R_drew));exact HO_10.out⟩,⟨by repeat (first|(with_reducible first|exact HB.out|apply below_alloc|apply pw_below_drewN|apply below_drew1)|exact HB.out)⟩⟩
        case rest =>
         clear HC42;try clear c1
         try clear c2
         try clear p2
         try clear c3
         try clear c4
         try clear c4b0
         try clear c5
         try clear c7
         try clear c7b0
         try clear c9
         try clear c14
         try clear c16
         try clear c18
         try clear c19
         try clear c20
         try clear c28
         try clear c31
         try clear c33
         try clear c35
         try clear c36
         try clear c39
         try clear c50
         try clear c50b0
         try clear c52
         try clear p2
         obtain ⟨kq,x82_41,rfl,HA,HJ41,HO_6,HO_10,HB⟩:=hcut
         cases kq with
         | zero => exact absurd HA.out (by simp [laws_FnExactWhoPlays.j1])
         | succ kj41 =>
          have H:=HA.out
          clear HA;simp only [laws_FnExactWhoPlays.j1] at H;by_cases c57 : x82_41 = true
          ·
           subst c57;have H1 : (some false) = some r:=by rw [if_pos rfl] at H;exact H
           clear H;have H:=H1;clear H1;obtain rfl:=Option.some.inj H;go_wp2;go_ret;exact ⟨by first|rfl|(simp [errW_none,errW_some] <;> rfl)|(simp [*,errW_none,errW_some] <;> rfl),by repeat (first|(with_reducible first|exact HB.out|apply below_alloc|apply pw_below_drewN|apply below_drew1)|exact HB.out)⟩
          ·
           replace c57:=Bool.eq_false_iff.mpr c57
           subst c57;have H1 : ((laws_markIntS.f kj41 t345 1).bind fun bt362 => ((laws_heldIntS.f kj41 bt362.2 1).bind fun t364 => (if t364 < 0 then (some false) else (if t364 = bt362.1 then ((laws_toInstrumentS.f kj41 l0).bind fun t365 => ((laws_toNoteS.f kj41 l1).bind fun t368 => ((impl_WhoPlays.f kj41 t365 t368).bind fun bt371 => ((laws_eqIntS.f kj41 bt371.1 t335).bind fun t375 => (if t375 = true then (laws_FnExactWhoPlays.j2 kj41 bt362.2 bt362.1 (bt371.2 != t336)) else (laws_FnExactWhoPlays.j2 kj41 bt362.2 bt362.1 true)))))) else (some false))))) = some r:=by rw [if_neg (show ¬ (false = true) by decide)] at H;exact H
           clear H;have H:=H1;clear H1;replace H:=Option.bind_eq_some_iff.mp H;obtain ⟨⟨t362,t363⟩,A580,H⟩:=H;replace H : ((laws_heldIntS.f kj41 t363 1).bind fun t364 => (if t364 < 0 then (some false) else (if t364 = t362 then ((laws_toInstrumentS.f kj41 l0).bind fun t365 => ((laws_toNoteS.f kj41 l1).bind fun t368 => ((impl_WhoPlays.f kj41 t365 t368).bind fun bt371 => ((laws_eqIntS.f kj41 bt371.1 t335).bind fun t375 => (if t375 = true then (laws_FnExactWhoPlays.j2 kj41 t363 t362 (bt371.2 != t336)) else (laws_FnExactWhoPlays.j2 kj41 t363 t362 true)))))) else (some false)))) = some r:=H
           have A58:=Aside0.mk A580;clear A580;replace H:=Option.bind_eq_some_iff.mp H;obtain ⟨t364,A590,H⟩:=H;replace H : (if t364 < 0 then (some false) else (if t364 = t362 then ((laws_toInstrumentS.f kj41 l0).bind fun t365 => ((laws_toNoteS.f kj41 l1).bind fun t368 => ((impl_WhoPlays.f kj41 t365 t368).bind fun bt371 => ((laws_eqIntS.f kj41 bt371.1 t335).bind fun t375 => (if t375 = true then (laws_FnExactWhoPlays.j2 kj41 t363 t362 (bt371.2 != t336)) else (laws_FnExactWhoPlays.j2 kj41 t363 t362 true)))))) else (some false))) = some r:=H
           have A59:=Aside0.mk A590;clear A590;by_cases c60 : t364 < 0
           ·
            rw [if_pos c60] at H
            have c60b0 : decide (t364 < 0) = true:=decide_eq_true c60
            clear c60;obtain rfl:=Option.some.inj H;obtain ⟨Ao61,co61,eo61⟩:=Kd.R_slice HO_10.out;subst eo61;go_wp2_with (first|((with_reducible refine gate_callee (f:=21) rfl ?_);refine goesL_ (some 85) rfl rfl Try.func21 (by kernel_rfl) rfl #[.slice Ao61 t345.length co61,.int .i64 1] rfl (by (try simp only [List.map_toArray,List.map_cons,List.map_nil]);first|done|rfl|(simp only [List.length_drop,List.length_take];rfl)) ?_;(with_reducible refine (laws_markIntS.calls kj41 (fun k_ => some k_ = (.slice Ao61 t345.length co61 : Value).ownBlock) (.slice Ao61 t345.length co61) t345 1 t362 t363 w _ ?side1 ?side2 A58.out).mono ?_);(case side1 => repeat (first|(with_reducible first|exact HB.out|apply below_alloc|apply pw_below_drewN|apply below_drew1)|exact HB.out));(case side2 => exact Kd.R_tight rfl HO_10.out);rintro e w62 ⟨rfl,hy0,hb,hkp⟩;refine ⟨_,rfl,?_⟩;have n0_:=Aside0.mk (Kd.R_mono (ok':=fun k_ => some k_ ≠ (.slice Ao61 t345.length co61 : Value).ownBlock) (Kd.R_keptB (HO_6.out) hkp (fun k_ hk_ hs_ => (hk_) hs_)) (fun k_ hk_ => hk_.1));have n1_:=Aside0.mk (Kd.R_reok rfl hy0 (fun k_ e_ => HO_10.out.1 k_ e_));have n2_:=Aside0.mk (hb);clear HO_6;clear HO_10;clear HB;have HO_6:=n0_;have HO_10:=n1_;have HB:=n2_;clear n0_ n1_ n2_;(try clear hb);(try clear hkp);(try clear hy0))|((with_reducible refine gate_callee (f:=22) rfl ?_);refine goesL_ (some 88) rfl rfl Try.func22 (by kernel_rfl) rfl #[.slice Ao61 t363.length co61,.int .i64 1] rfl (by (try simp only [List.map_toArray,List.map_cons,List.map_nil]);first|done|(rw [show t363.length = t345.length from (Kd.R_reads' HO_10.out).1.symm] <;> rfl)|rfl|(simp only [List.length_drop,List.length_take];rfl)) ?_;(with_reducible refine (laws_heldIntS.calls kj41 _ _ t363 1 t364 _ ?side1 ?side2 A59.out).mono ?_);(case side1 => repeat (first|exact (Kd.R_reads' HO_10.out).2.2|(with_reducible refine Kd.C_alloc ?_ _)|(with_reducible refine Kd.C_drewN ?_ _)|(with_reducible refine Kd.C_drew ?_)));(case side2 => rw [show t363.length = t345.length from (Kd.R_reads' HO_10.out).1.symm];exact (Kd.R_reads' HO_10.out).2.1);rintro e w' ⟨rfl,⟨nd,rfl⟩⟩;refine ⟨_,rfl,?_⟩))
            go_ret
            exact ⟨by first|rfl|(simp [errW_none,errW_some] <;> rfl)|(simp [*,errW_none,errW_some] <;> rfl),by repeat (first|(with_reducible first|exact HB.out|apply below_alloc|apply pw_below_drewN|apply below_drew1)|exact HB.out)⟩
           ·
            rw [if_neg c60] at H
            have c60b0 : decide (t364 < 0) = false:=decide_eq_false c60
            clear c60;by_cases c63 : t364 = t362
            ·
             rw [if_pos c63] at H
             have c63b0 : (t364 == t362) = true:=beq_iff_eq.mpr c63
             have c63b1 : (t364 != t362) = false:=bne_eq_false_iff_eq.mpr c63
             clear c63;replace H:=Option.bind_eq_some_iff.mp H;obtain ⟨t365,A640,H⟩:=H;replace H : ((laws_toNoteS.f kj41 l1).bind fun t368 => ((impl_WhoPlays.f kj41 t365 t368).bind fun bt371 => ((laws_eqIntS.f kj41 bt371.1 t335).bind fun t375 => (if t375 = true then (laws_FnExactWhoPlays.j2 kj41 t363 t362 (bt371.2 != t336)) else (laws_FnExactWhoPlays.j2 kj41 t363 t362 true))))) = some r:=H
             have A64:=Aside0.mk A640;clear A640;replace H:=Option.bind_eq_some_iff.mp H;obtain ⟨t368,A650,H⟩:=H;replace H : ((impl_WhoPlays.f kj41 t365 t368).bind fun bt371 => ((laws_eqIntS.f kj41 bt371.1 t335).bind fun t375 => (if t375 = true then (laws_FnExactWhoPlays.j2 kj41 t363 t362 (bt371.2 != t336)) else (laws_FnExactWhoPlays.j2 kj41 t363 t362 true)))) = some r:=H
             have A65:=Aside0.mk A650;clear A650;replace H:=Option.bind_eq_some_iff.mp H;obtain ⟨⟨t371,t372⟩,A660,H⟩:=H;replace H : ((laws_eqIntS.f kj41 t371 t335).bind fun t375 => (if t375 = true then (laws_FnExactWhoPlays.j2 kj41 t363 t362 (t372 != t336)) else (laws_FnExactWhoPlays.j2 kj41 t363 t362 true))) = some r:=H
             have A66:=Aside0.mk A660;clear A660;have HC67:=Aside0.mk H;clear H;obtain ⟨Ao68,co68,eo68⟩:=Kd.R_slice HO_10.out;subst eo68;go_upto_region 32 with (first|((with_reducible refine gate_callee (f:=21) rfl ?_);refine goesL_ (some 85) rfl rfl Try.func21 (by kernel_rfl) rfl #[.slice Ao68 t345.length co68,.int .i64 1] rfl (by (try simp only [List.map_toArray,List.map_cons,List.map_nil]);first|done|rfl|(simp only [List.length_drop,List.length_take];rfl)) ?_;(with_reducible refine (laws_markIntS.calls kj41 (fun k_ => some k_ = (.slice Ao68 t345.length co68 : Value).ownBlock) (.slice Ao68 t345.length co68) t345 1 t362 t363 w _ ?side1 ?side2 A58.out).mono ?_);(case side1 => repeat (first|(with_reducible first|exact HB.out|apply below_alloc|apply pw_below_drewN|apply below_drew1)|exact HB.out));(case side2 => exact Kd.R_tight rfl HO_10.out);rintro e w69 ⟨rfl,hy0,hb,hkp⟩;refine ⟨_,rfl,?_⟩;have n0_:=Aside0.mk (Kd.R_mono (ok':=fun k_ => some k_ ≠ (.slice Ao68 t345.length co68 : Value).ownBlock) (Kd.R_keptB (HO_6.out) hkp (fun k_ hk_ hs_ => (hk_) hs_)) (fun k_ hk_ => hk_.1));have n1_:=Aside0.mk (Kd.R_reok rfl hy0 (fun k_ e_ => HO_10.out.1 k_ e_));have n2_:=Aside0.mk (hb);clear HO_6;clear HO_10;clear HB;have HO_6:=n0_;have HO_10:=n1_;have HB:=n2_;clear n0_ n1_ n2_;(try clear hb);(try clear hkp);(try clear hy0))|((with_reducible refine gate_callee (f:=22) rfl ?_);refine goesL_ (some 88) rfl rfl Try.func22 (by kernel_rfl) rfl #[.slice Ao68 t363.length co68,.int .i64 1] rfl (by (try simp only [List.map_toArray,List.map_cons,List.map_nil]);first|done|(rw [show t363.length = t345.length from (Kd.R_reads' HO_10.out).1.symm] <;> rfl)|rfl|(simp only [List.length_drop,List.length_take];rfl)) ?_;(with_reducible refine (laws_heldIntS.calls kj41 _ _ t363 1 t364 _ ?side1 ?side2 A59.out).mono ?_);(case side1 => repeat (first|exact (Kd.R_reads' HO_10.out).2.2|(with_reducible refine Kd.C_alloc ?_ _)|(with_reducible refine Kd.C_drewN ?_ _)|(with_reducible refine Kd.C_drew ?_)));(case side2 => rw [show t363.length = t345.length from (Kd.R_reads' HO_10.out).1.symm];exact (Kd.R_reads' HO_10.out).2.1);rintro e w' ⟨rfl,⟨nd,rfl⟩⟩;refine ⟨_,rfl,?_⟩)|((with_reducible refine gate_callee (f:=33) rfl ?_);refine goesL_ (some 96) rfl rfl Try.func33 (by kernel_rfl) rfl #[.slice A0 l0.length c0] rfl (by (try simp only [List.map_toArray,List.map_cons,List.map_nil]);first|done|rfl|(simp only [List.length_drop,List.length_take];rfl)) ?_;(with_reducible refine (laws_toInstrumentS.calls kj41 _ _ l0 t365 _ ?side1 ?side2 A64.out).mono ?_);(case side1 => repeat (first|exact (Kd.C_below HR0.out (by repeat (first|(with_reducible first|exact HB.out|apply below_alloc|apply pw_below_drewN|apply below_drew1)|exact HB.out)))|(with_reducible refine Kd.C_alloc ?_ _)|(with_reducible refine Kd.C_drewN ?_ _)|(with_reducible refine Kd.C_drew ?_)));(case side2 => exact HC0.out);rintro e w70 ⟨v366,rfl,ho0,hb⟩;refine ⟨_,rfl,?_⟩;have n0_:=Aside0.mk (Kd.R_below (by (with_reducible repeat (first|apply Kd.R_alloc|apply Kd.R_drewN|apply Kd.R_drew));exact HO_6.out) hb);have n1_:=Aside0.mk (Kd.R_below (by (with_reducible repeat (first|apply Kd.R_alloc|apply Kd.R_drewN|apply Kd.R_drew));exact HO_10.out) hb);have n2_:=Aside0.mk (Kd.S_lower (Kd.S_new' (Kd.S_new' ho0 (Kd.R_lt (by (with_reducible repeat (first|apply Kd.R_alloc|apply Kd.R_drewN|apply Kd.R_drew));exact HO_6.out))) (Kd.R_lt (by (with_reducible repeat (first|apply Kd.R_alloc|apply Kd.R_drewN|apply Kd.R_drew));exact HO_10.out))) (below_size (by repeat (first|(with_reducible first|exact HB.out|apply below_alloc|apply pw_below_drewN|apply below_drew1)|exact HB.out))));have n3_:=Aside0.mk (below_step (by repeat (first|(with_reducible first|exact HB.out|apply below_alloc|apply pw_below_drewN|apply below_drew1)|exact HB.out)) hb);clear HO_6;clear HO_10;clear HB;have HO_6:=n0_;have HO_10:=n1_;have HO367:=n2_;have HB:=n3_;clear n0_ n1_ n2_ n3_;(try clear hb);(try clear hb2);(try clear hk);(try clear hi);(try clear ho0))|((with_reducible refine gate_callee (f:=16) rfl ?_);refine goesL_ (some 98) rfl rfl Try.func16 (by kernel_rfl) rfl #[.slice A1 l1.length c1] rfl (by (try simp only [List.map_toArray,List.map_cons,List.map_nil]);first|done|rfl|(simp only [List.length_drop,List.length_take];rfl)) ?_;(with_reducible refine (laws_toNoteS.calls kj41 _ _ l1 t368 _ ?side1 ?side2 A65.out).mono ?_);(case side1 => repeat (first|exact (Kd.C_below HR1.out HB.out)|(with_reducible refine Kd.C_alloc ?_ _)|(with_reducible refine Kd.C_drewN ?_ _)|(with_reducible refine Kd.C_drew ?_)));(case side2 => exact HC1.out);rintro e w71 ⟨v369,rfl,ho0,hb⟩;refine ⟨_,rfl,?_⟩;have n0_:=Aside0.mk (Kd.R_below (by (with_reducible repeat (first|apply Kd.R_alloc|apply Kd.R_drewN|apply Kd.R_drew));exact HO_6.out) hb);have n1_:=Aside0.mk (Kd.R_below (by (with_reducible repeat (first|apply Kd.R_alloc|apply Kd.R_drewN|apply Kd.R_drew));exact HO_10.out) hb);have n2_:=Aside0.mk (Kd.S_below (by (with_reducible repeat (first|apply Kd.S_alloc|apply Kd.S_drewN|apply Kd.S_drew));exact HO367.out) hb);have n3_:=Aside0.mk (Kd.R_lower ho0 (below_size (by repeat (first|(with_reducible first|exact HB.out|apply below_alloc|apply pw_below_drewN|apply below_drew1)|exact HB.out))));have n4_:=Aside0.mk (below_step (by repeat (first|(with_reducible first|exact HB.out|apply below_alloc|apply pw_below_drewN|apply below_drew1)|exact HB.out)) hb);clear HO_6;clear HO_10;clear HO367;clear HB;have HO_6:=n0_;have HO_10:=n1_;have HO367:=n2_;have HO370:=n3_;have HB:=n4_;clear n0_ n1_ n2_ n3_ n4_;(try clear hb);(try clear hb2);(try clear hk);(try clear hi);(try clear ho0);obtain ⟨Ao72,co72,eo72⟩:=Kd.S_slice HO367.out;subst eo72;obtain ⟨Ao73,co73,eo73⟩:=Kd.R_slice HO370.out;subst eo73)|((with_reducible refine gate_callee (f:=58) rfl ?_);refine goesL_ (some 99) rfl rfl Try.func58 (by kernel_rfl) rfl #[.slice Ao72 t365.length co72,.slice Ao73 t368.length co73] rfl (by (try simp only [List.map_toArray,List.map_cons,List.map_nil]);first|done|rfl|(simp only [List.length_drop,List.length_take];rfl)) ?_;(with_reducible refine (impl_WhoPlays.calls kj41 _ _ t365 _ _ t368 t371 t372 _ ?side1 ?side2 ?side3 ?side4 A66.out).mono ?_);(case side1 => repeat (first|exact (Kd.S_reads' HO367.out).2.2|(with_reducible refine Kd.C_alloc ?_ _)|(with_reducible refine Kd.C_drewN ?_ _)|(with_reducible refine Kd.C_drew ?_)));(case side2 => exact (Kd.S_reads' HO367.out).2.1);(case side3 => repeat (first|exact (Kd.R_reads' HO370.out).2.2|(with_reducible refine Kd.C_alloc ?_ _)|(with_reducible refine Kd.C_drewN ?_ _)|(with_reducible refine Kd.C_drew ?_)));(case side4 => exact (Kd.R_reads' HO370.out).2.1);rintro e w74 ⟨v373,rfl,ho0,hb⟩;refine ⟨_,rfl,?_⟩;have n0_:=Aside0.mk (Kd.R_elder' (by (with_reducible repeat (first|apply Kd.R_alloc|apply Kd.R_drewN|apply Kd.R_drew));exact HO_6.out) (Kd.R_base ho0) hb);have n1_:=Aside0.mk (Kd.R_elder' (by (with_reducible repeat (first|apply Kd.R_alloc|apply Kd.R_drewN|apply Kd.R_drew));exact HO_10.out) (Kd.R_base ho0) hb);have n2_:=Aside0.mk (Kd.S_elder' (by (with_reducible repeat (first|apply Kd.S_alloc|apply Kd.S_drewN|apply Kd.S_drew));exact HO367.out) (Kd.R_base ho0) hb);have n3_:=Aside0.mk (Kd.R_below (by (with_reducible repeat (first|apply Kd.R_alloc|apply Kd.R_drewN|apply Kd.R_drew));exact HO370.out) hb);have n4_:=Aside0.mk (Kd.R_lower (Kd.R_new' (Kd.R_new' ho0 (Kd.R_lt (by (with_reducible repeat (first|apply Kd.R_alloc|apply Kd.R_drewN|apply Kd.R_drew));exact HO_6.out))) (Kd.R_lt (by (with_reducible repeat (first|apply Kd.R_alloc|apply Kd.R_drewN|apply Kd.R_drew));exact HO_10.out))) (below_size (by repeat (first|(with_reducible first|exact HB.out|apply below_alloc|apply pw_below_drewN|apply below_drew1)|exact HB.out))));have n5_:=Aside0.mk (below_step (by repeat (first|(with_reducible first|exact HB.out|apply below_alloc|apply pw_below_drewN|apply below_drew1)|exact HB.out)) hb);clear HO_6;clear HO_10;clear HO367;clear HO370;clear HB;have HO_6:=n0_;have HO_10:=n1_;have HO367:=n2_;have HO370:=n3_;have HO374:=n4_;have HB:=n5_;clear n0_ n1_ n2_ n3_ n4_ n5_;(try clear hb);(try clear hb2);(try clear hk);(try clear hi);(try clear ho0)))
             (try simp only [Act.put,List.setIfInBounds_toArray,List.set_cons_zero,List.set_cons_succ])
             go_cut [110] (fun v110 wc => ∃ (kq : Nat) (x110_66 : Bool),v110 = .bool x110_66 ∧ Aside0 (laws_FnExactWhoPlays.j2 kq t363 t362 x110_66 = some r) ∧ Aside0 (kq ≤ kj41) ∧ Aside0 (Kd.R (Kd.int .i64) 3 wc w.heap.size (fun _ => True) (.slice Ao68 t345.length co68) t363) ∧ Aside0 (Below w.heap.size w wc))
             case first =>
              have H:=HC67.out
              clear HC67;replace H:=Option.bind_eq_some_iff.mp H;obtain ⟨t375,A750,H⟩:=H;replace H : (if t375 = true then (laws_FnExactWhoPlays.j2 kj41 t363 t362 (t372 != t336)) else (laws_FnExactWhoPlays.j2 kj41 t363 t362 true)) = some r:=H;have A75:=Aside0.mk A750;clear A750;by_cases c76 : t375 = true
              ·
               subst c76;have H1 : (laws_FnExactWhoPlays.j2 kj41 t363 t362 (t372 != t336)) = some r:=by rw [if_pos rfl] at H;exact H
               clear H;have H:=H1;clear H1;have H':=Aside0.mk H;clear H;obtain ⟨Ao77,co77,eo77⟩:=Kd.R_slice HO374.out;subst eo77;obtain ⟨Ao78,co78,eo78⟩:=Kd.R_slice HO_6.out;subst eo78;go_wp2_with (first|((with_reducible refine gate_callee (f:=18) rfl ?_);refine goesL_ (some 104) rfl rfl Try.func18 (by kernel_rfl) rfl #[.slice Ao77 t371.length co77,.slice Ao78 t335.length co78] rfl (by (try simp only [List.map_toArray,List.map_cons,List.map_nil]);first|done|rfl|(simp only [List.length_drop,List.length_take];rfl)) ?_;(with_reducible refine (laws_eqIntS.calls kj41 _ _ t371 _ _ t335 true _ ?side1 ?side2 ?side3 ?side4 A75.out).mono ?_);(case side1 => repeat (first|exact (Kd.R_reads' HO374.out).2.2|(with_reducible refine Kd.C_alloc ?_ _)|(with_reducible refine Kd.C_drewN ?_ _)|(with_reducible refine Kd.C_drew ?_)));(case side2 => exact (Kd.R_reads' HO374.out).2.1);(case side3 => repeat (first|exact (Kd.R_reads' HO_6.out).2.2|(with_reducible refine Kd.C_alloc ?_ _)|(with_reducible refine Kd.C_drewN ?_ _)|(with_reducible refine Kd.C_drew ?_)));(case side4 => exact (Kd.R_reads' HO_6.out).2.1);rintro e w' ⟨rfl,⟨nd,rfl⟩⟩;refine ⟨_,rfl,?_⟩))
               go_meet
               case rel => exact ⟨_,((t372 != t336)),(by first|rfl|(simp;done)|(simp [*];done)),H',⟨by have:=HJ14.out;have:=HJ41.out;first|omega|exact Nat.le_refl _⟩,⟨by (with_reducible repeat (first|apply Kd.R_alloc|apply Kd.R_drewN|apply Kd.R_drew));exact Kd.R_mono HO_10.out (fun _ hk => trivial)⟩,⟨by repeat (first|(with_reducible first|exact HB.out|apply below_alloc|apply pw_below_drewN|apply below_drew1)|exact HB.out)⟩⟩
              ·
               replace c76:=Bool.eq_false_iff.mpr c76
               subst c76;have H1 : (laws_FnExactWhoPlays.j2 kj41 t363 t362 true) = some r:=by rw [if_neg (show ¬ (false = true) by decide)] at H;exact H
               clear H;have H:=H1;clear H1;have H':=Aside0.mk H;clear H;obtain ⟨Ao79,co79,eo79⟩:=Kd.R_slice HO374.out;subst eo79;obtain ⟨Ao80,co80,eo80⟩:=Kd.R_slice HO_6.out;subst eo80;go_wp2_with (first|((with_reducible refine gate_callee (f:=18) rfl ?_);refine goesL_ (some 104) rfl rfl Try.func18 (by kernel_rfl) rfl #[.slice Ao79 t371.length co79,.slice Ao80 t335.length co80] rfl (by (try simp only [List.map_toArray,List.map_cons,List.map_nil]);first|done|rfl|(simp only [List.length_drop,List.length_take];rfl)) ?_;(with_reducible refine (laws_eqIntS.calls kj41 _ _ t371 _ _ t335 false _ ?side1 ?side2 ?side3 ?side4 A75.out).mono ?_);(case side1 => repeat (first|exact (Kd.R_reads' HO374.out).2.2|(with_reducible refine Kd.C_alloc ?_ _)|(with_reducible refine Kd.C_drewN ?_ _)|(with_reducible refine Kd.C_drew ?_)));(case side2 => exact (Kd.R_reads' HO374.out).2.1);(case side3 => repeat (first|exact (Kd.R_reads' HO_6.out).2.2|(with_reducible refine Kd.C_alloc ?_ _)|(with_reducible refine Kd.C_drewN ?_ _)|(with_reducible refine Kd.C_drew ?_)));(case side4 => exact (Kd.R_reads' HO_6.out).2.1);rintro e w' ⟨rfl,⟨nd,rfl⟩⟩;refine ⟨_,rfl,?_⟩))
               go_meet
               case rel => exact ⟨_,(true),(by first|rfl|(simp;done)|(simp [*];done)),H',⟨by have:=HJ14.out;have:=HJ41.out;first|omega|exact Nat.le_refl _⟩,⟨by (with_reducible repeat (first|apply Kd.R_alloc|apply Kd.R_drewN|apply Kd.R_drew));exact Kd.R_mono HO_10.out (fun _ hk => trivial)⟩,⟨by repeat (first|(with_reducible first|exact HB.out|apply below_alloc|apply pw_below_drewN|apply below_drew1)|exact HB.out)⟩⟩
             case rest =>
              clear HC67;try clear c1
              try clear c2
              try clear p2
              try clear c3
              try clear c4
              try clear c4b0
              try clear c5
              try clear c6
              try clear c7
              try clear c7b0
              try clear c9
              try clear c14
              try clear c16
              try clear c18
              try clear c19
              try clear c20
              try clear c21
              try clear c22
              try clear c28
              try clear c31
              try clear c33
              try clear c35
              try clear c36
              try clear c39
              try clear c50
              try clear c50b0
              try clear c52
              try clear c57
              try clear c58
              try clear c59
              try clear c60
              try clear c60b0
              try clear c63
              try clear c63b0
              try clear c63b1
              try clear c76
              try clear p2
              obtain ⟨kq,x110_66,rfl,HA,HJ66,HO_10,HB⟩:=hcut
              have hl10_66:=(Kd.R_reads' HO_10.out).1
              rw [hl10_66] at HO_10
              (try simp only [hl10_66])
              cases kq with
              | zero => exact absurd HA.out (by simp [laws_FnExactWhoPlays.j2])
              | succ kj66 =>
               have H:=HA.out
               clear HA;simp only [laws_FnExactWhoPlays.j2] at H;by_cases c81 : x110_66 = true
               ·
                subst c81;have H1 : (some false) = some r:=by rw [if_pos rfl] at H;exact H
                clear H;have H:=H1;clear H1;obtain rfl:=Option.some.inj H;go_wp2;go_ret;exact ⟨by first|rfl|(simp [errW_none,errW_some] <;> rfl)|(simp [*,errW_none,errW_some] <;> rfl),by repeat (first|(with_reducible first|exact HB.out|apply below_alloc|apply pw_below_drewN|apply below_drew1)|exact HB.out)⟩
               ·
                replace c81:=Bool.eq_false_iff.mpr c81
                subst c81;have H1 : ((laws_heldIntS.f kj66 t363 1).bind fun t376 => (if t376 < 0 then (some false) else (if t376 = t362 then (some true) else (some false)))) = some r:=by rw [if_neg (show ¬ (false = true) by decide)] at H;exact H
                clear H;have H:=H1;clear H1;replace H:=Option.bind_eq_some_iff.mp H;obtain ⟨t376,A820,H⟩:=H;replace H : (if t376 < 0 then (some false) else (if t376 = t362 then (some true) else (some false))) = some r:=H;have A82:=Aside0.mk A820;clear A820;by_cases c83 : t376 < 0
                ·
                 rw [if_pos c83] at H
                 have c83b0 : decide (t376 < 0) = true:=decide_eq_true c83
                 clear c83;obtain rfl:=Option.some.inj H;go_wp2_with (first|((with_reducible refine gate_callee (f:=22) rfl ?_);refine goesL_ (some 113) rfl rfl Try.func22 (by kernel_rfl) rfl #[.slice Ao68 t363.length co68,.int .i64 1] rfl (by (try simp only [List.map_toArray,List.map_cons,List.map_nil]);first|done|rfl|(simp only [List.length_drop,List.length_take];rfl)) ?_;(with_reducible refine (laws_heldIntS.calls kj66 _ _ t363 1 t376 _ ?side1 ?side2 A82.out).mono ?_);(case side1 => repeat (first|exact (Kd.R_reads' HO_10.out).2.2|(with_reducible refine Kd.C_alloc ?_ _)|(with_reducible refine Kd.C_drewN ?_ _)|(with_reducible refine Kd.C_drew ?_)));(case side2 => exact (Kd.R_reads' HO_10.out).2.1);rintro e w' ⟨rfl,⟨nd,rfl⟩⟩;refine ⟨_,rfl,?_⟩))
                 go_ret
                 exact ⟨by first|rfl|(simp [errW_none,errW_some] <;> rfl)|(simp [*,errW_none,errW_some] <;> rfl),by repeat (first|(with_reducible first|exact HB.out|apply below_alloc|apply pw_below_drewN|apply below_drew1)|exact HB.out)⟩
                ·
                 rw [if_neg c83] at H
                 have c83b0 : decide (t376 < 0) = false:=decide_eq_false c83
                 clear c83;by_cases c84 : t376 = t362
                 ·
                  rw [if_pos c84] at H
                  have c84b0 : (t376 == t362) = true:=beq_iff_eq.mpr c84
                  have c84b1 : (t376 != t362) = false:=bne_eq_false_iff_eq.mpr c84
                  clear c84;obtain rfl:=Option.some.inj H;go_wp2_with (first|((with_reducible refine gate_callee (f:=22) rfl ?_);refine goesL_ (some 113) rfl rfl Try.func22 (by kernel_rfl) rfl #[.slice Ao68 t363.length co68,.int .i64 1] rfl (by (try simp only [List.map_toArray,List.map_cons,List.map_nil]);first|done|rfl|(simp only [List.length_drop,List.length_take];rfl)) ?_;(with_reducible refine (laws_heldIntS.calls kj66 _ _ t363 1 t376 _ ?side1 ?side2 A82.out).mono ?_);(case side1 => repeat (first|exact (Kd.R_reads' HO_10.out).2.2|(with_reducible refine Kd.C_alloc ?_ _)|(with_reducible refine Kd.C_drewN ?_ _)|(with_reducible refine Kd.C_drew ?_)));(case side2 => exact (Kd.R_reads' HO_10.out).2.1);rintro e w' ⟨rfl,⟨nd,rfl⟩⟩;refine ⟨_,rfl,?_⟩))
                  go_ret
                  exact ⟨by first|rfl|(simp [errW_none,errW_some] <;> rfl)|(simp [*,errW_none,errW_some] <;> rfl),by repeat (first|(with_reducible first|exact HB.out|apply below_alloc|apply pw_below_drewN|apply below_drew1)|exact HB.out)⟩
                 ·
                  rw [if_neg c84] at H
                  have c84b0 : (t376 == t362) = false:=beq_eq_false_iff_ne.mpr c84
                  have c84b1 : (t376 != t362) = true:=bne_iff_ne.mpr c84
                  obtain rfl:=Option.some.inj H
                  go_wp2_with (first|((with_reducible refine gate_callee (f:=22) rfl ?_);refine goesL_ (some 113) rfl rfl Try.func22 (by kernel_rfl) rfl #[.slice Ao68 t363.length co68,.int .i64 1] rfl (by (try simp only [List.map_toArray,List.map_cons,List.map_nil]);first|done|rfl|(simp only [List.length_drop,List.length_take];rfl)) ?_;(with_reducible refine (laws_heldIntS.calls kj66 _ _ t363 1 t376 _ ?side1 ?side2 A82.out).mono ?_);(case side1 => repeat (first|exact (Kd.R_reads' HO_10.out).2.2|(with_reducible refine Kd.C_alloc ?_ _)|(with_reducible refine Kd.C_drewN ?_ _)|(with_reducible refine Kd.C_drew ?_)));(case side2 => exact (Kd.R_reads' HO_10.out).2.1);rintro e w' ⟨rfl,⟨nd,rfl⟩⟩;refine ⟨_,rfl,?_⟩))
                  go_ret
                  exact ⟨by first|rfl|(simp [errW_none,errW_some] <;> rfl)|(simp [*,errW_none,errW_some] <;> rfl),by repeat (first|(with_reducible first|exact HB.out|apply below_alloc|apply pw_below_drewN|apply below_drew1)|exact HB.out)⟩
            ·
             rw [if_neg c63] at H
             have c63b0 : (t364 == t362) = false:=beq_eq_false_iff_ne.mpr c63
             have c63b1 : (t364 != t362) = true:=bne_iff_ne.mpr c63
             obtain rfl:=Option.some.inj H
             obtain ⟨Ao85,co85,eo85⟩:=Kd.R_slice HO_10.out;subst eo85;go_wp2_with (first|((with_reducible refine gate_callee (f:=21) rfl ?_);refine goesL_ (some 85) rfl rfl Try.func21 (by kernel_rfl) rfl #[.slice Ao85 t345.length co85,.int .i64 1] rfl (by (try simp only [List.map_toArray,List.map_cons,List.map_nil]);first|done|rfl|(simp only [List.length_drop,List.length_take];rfl)) ?_;(with_reducible refine (laws_markIntS.calls kj41 (fun k_ => some k_ = (.slice Ao85 t345.length co85 : Value).ownBlock) (.slice Ao85 t345.length co85) t345 1 t362 t363 w _ ?side1 ?side2 A58.out).mono ?_);(case side1 => repeat (first|(with_reducible first|exact HB.out|apply below_alloc|apply pw_below_drewN|apply below_drew1)|exact HB.out));(case side2 => exact Kd.R_tight rfl HO_10.out);rintro e w86 ⟨rfl,hy0,hb,hkp⟩;refine ⟨_,rfl,?_⟩;have n0_:=Aside0.mk (Kd.R_mono (ok':=fun k_ => some k_ ≠ (.slice Ao85 t345.length co85 : Value).ownBlock) (Kd.R_keptB (HO_6.out) hkp (fun k_ hk_ hs_ => (hk_) hs_)) (fun k_ hk_ => hk_.1));have n1_:=Aside0.mk (Kd.R_reok rfl hy0 (fun k_ e_ => HO_10.out.1 k_ e_));have n2_:=Aside0.mk (hb);clear HO_6;clear HO_10;clear HB;have HO_6:=n0_;have HO_10:=n1_;have HB:=n2_;clear n0_ n1_ n2_;(try clear hb);(try clear hkp);(try clear hy0))|((with_reducible refine gate_callee (f:=22) rfl ?_);refine goesL_ (some 88) rfl rfl Try.func22 (by kernel_rfl) rfl #[.slice Ao85 t363.length co85,.int .i64 1] rfl (by (try simp only [List.map_toArray,List.map_cons,List.map_nil]);first|done|(rw [show t363.length = t345.length from (Kd.R_reads' HO_10.out).1.symm] <;> rfl)|rfl|(simp only [List.length_drop,List.length_take];rfl)) ?_;(with_reducible refine (laws_heldIntS.calls kj41 _ _ t363 1 t364 _ ?side1 ?side2 A59.out).mono ?_);(case side1 => repeat (first|exact (Kd.R_reads' HO_10.out).2.2|(with_reducible refine Kd.C_alloc ?_ _)|(with_reducible refine Kd.C_drewN ?_ _)|(with_reducible refine Kd.C_drew ?_)));(case side2 => rw [show t363.length = t345.length from (Kd.R_reads' HO_10.out).1.symm];exact (Kd.R_reads' HO_10.out).2.1);rintro e w' ⟨rfl,⟨nd,rfl⟩⟩;refine ⟨_,rfl,?_⟩))
             go_ret
             exact ⟨by first|rfl|(simp [errW_none,errW_some] <;> rfl)|(simp [*,errW_none,errW_some] <;> rfl),by repeat (first|(with_reducible first|exact HB.out|apply below_alloc|apply pw_below_drewN|apply below_drew1)|exact HB.out)⟩
       ·
        replace c39:=Bool.eq_false_iff.mpr c39
        subst c39;have H1 : (some false) = some r:=by rw [if_neg (show ¬ (false = true) by decide)] at H;exact H
        clear H;have H:=H1;clear H1;obtain rfl:=Option.some.inj H;go_wp2_with (first|((with_reducible refine gate_callee (f:=33) rfl ?_);refine goesL_ (some 56) rfl rfl Try.func33 (by kernel_rfl) rfl #[.slice A0 l0.length c0] rfl (by (try simp only [List.map_toArray,List.map_cons,List.map_nil]);first|done|rfl|(simp only [List.length_drop,List.length_take];rfl)) ?_;(with_reducible refine (laws_toInstrumentS.calls kj14 _ _ l0 t350 _ ?side1 ?side2 A34.out).mono ?_);(case side1 => repeat (first|exact (Kd.C_below HR0.out HB.out)|(with_reducible refine Kd.C_alloc ?_ _)|(with_reducible refine Kd.C_drewN ?_ _)|(with_reducible refine Kd.C_drew ?_)));(case side2 => exact HC0.out);rintro e w87 ⟨v351,rfl,ho0,hb⟩;refine ⟨_,rfl,?_⟩;have n0_:=Aside0.mk (Kd.R_below (by (with_reducible repeat (first|apply Kd.R_alloc|apply Kd.R_drewN|apply Kd.R_drew));exact HO_6.out) hb);have n1_:=Aside0.mk (Kd.S_elder' (by (with_reducible repeat (first|apply Kd.S_alloc|apply Kd.S_drewN|apply Kd.S_drew));exact HO_8.out) (Kd.S_base ho0) hb);have n2_:=Aside0.mk (Kd.R_below (by (with_reducible repeat (first|apply Kd.R_alloc|apply Kd.R_drewN|apply Kd.R_drew));exact HO_9.out) hb);have n3_:=Aside0.mk (Kd.R_below (by (with_reducible repeat (first|apply Kd.R_alloc|apply Kd.R_drewN|apply Kd.R_drew));exact HO_10.out) hb);have n4_:=Aside0.mk (Kd.S_lower (Kd.S_new' (Kd.S_new' (Kd.S_new' ho0 (Kd.R_lt (by (with_reducible repeat (first|apply Kd.R_alloc|apply Kd.R_drewN|apply Kd.R_drew));exact HO_6.out))) (Kd.S_lt (by (with_reducible repeat (first|apply Kd.S_alloc|apply Kd.S_drewN|apply Kd.S_drew));exact HO_8.out))) (Kd.R_lt (by (with_reducible repeat (first|apply Kd.R_alloc|apply Kd.R_drewN|apply Kd.R_drew));exact HO_10.out))) (below_size (by repeat (first|(with_reducible first|exact HB.out|apply below_alloc|apply pw_below_drewN|apply below_drew1)|exact HB.out))));have n5_:=Aside0.mk (below_step (by repeat (first|(with_reducible first|exact HB.out|apply below_alloc|apply pw_below_drewN|apply below_drew1)|exact HB.out)) hb);clear HO_6;clear HO_8;clear HO_9;clear HO_10;clear HB;have HO_6:=n0_;have HO_8:=n1_;have HO_9:=n2_;have HO_10:=n3_;have HO352:=n4_;have HB:=n5_;clear n0_ n1_ n2_ n3_ n4_ n5_;(try clear hb);(try clear hb2);(try clear hk);(try clear hi);(try clear ho0);obtain ⟨Ao88,co88,eo88⟩:=Kd.S_slice HO352.out;subst eo88)|((with_reducible refine gate_callee (f:=35) rfl ?_);refine goesL_ (some 57) rfl rfl Try.func35 (by kernel_rfl) rfl #[.slice Ao24 t339.length co24,.slice Ao88 t350.length co88] rfl (by (try simp only [List.map_toArray,List.map_cons,List.map_nil]);first|done|rfl|(simp only [List.length_drop,List.length_take];rfl)) ?_;(with_reducible refine (laws_eqInstrumentS.calls kj14 _ _ t339 _ _ t350 true _ ?side1 ?side2 ?side3 ?side4 A35.out).mono ?_);(case side1 => repeat (first|exact (Kd.S_reads' HO_8.out).2.2|(with_reducible refine Kd.C_alloc ?_ _)|(with_reducible refine Kd.C_drewN ?_ _)|(with_reducible refine Kd.C_drew ?_)));(case side2 => exact (Kd.S_reads' HO_8.out).2.1);(case side3 => repeat (first|exact (Kd.S_reads' HO352.out).2.2|(with_reducible refine Kd.C_alloc ?_ _)|(with_reducible refine Kd.C_drewN ?_ _)|(with_reducible refine Kd.C_drew ?_)));(case side4 => exact (Kd.S_reads' HO352.out).2.1);rintro e w89 ⟨rfl,hb⟩;refine ⟨_,rfl,?_⟩;have n0_:=Aside0.mk (Kd.R_below (by (with_reducible repeat (first|apply Kd.R_alloc|apply Kd.R_drewN|apply Kd.R_drew));exact HO_6.out) hb);have n1_:=Aside0.mk (Kd.S_below (by (with_reducible repeat (first|apply Kd.S_alloc|apply Kd.S_drewN|apply Kd.S_drew));exact HO_8.out) hb);have n2_:=Aside0.mk (Kd.R_below (by (with_reducible repeat (first|apply Kd.R_alloc|apply Kd.R_drewN|apply Kd.R_drew));exact HO_9.out) hb);have n3_:=Aside0.mk (Kd.R_below (by (with_reducible repeat (first|apply Kd.R_alloc|apply Kd.R_drewN|apply Kd.R_drew));exact HO_10.out) hb);have n4_:=Aside0.mk (Kd.S_below (by (with_reducible repeat (first|apply Kd.S_alloc|apply Kd.S_drewN|apply Kd.S_drew));exact HO352.out) hb);have n5_:=Aside0.mk (below_step (by repeat (first|(with_reducible first|exact HB.out|apply below_alloc|apply pw_below_drewN|apply below_drew1)|exact HB.out)) hb);clear HO_6;clear HO_8;clear HO_9;clear HO_10;clear HO352;clear HB;have HO_6:=n0_;have HO_8:=n1_;have HO_9:=n2_;have HO_10:=n3_;have HO352:=n4_;have HB:=n5_;clear n0_ n1_ n2_ n3_ n4_ n5_;(try clear hb);(try clear hb2);(try clear hk);(try clear hi))|((with_reducible refine gate_callee (f:=16) rfl ?_);refine goesL_ (some 61) rfl rfl Try.func16 (by kernel_rfl) rfl #[.slice A1 l1.length c1] rfl (by (try simp only [List.map_toArray,List.map_cons,List.map_nil]);first|done|rfl|(simp only [List.length_drop,List.length_take];rfl)) ?_;(with_reducible refine (laws_toNoteS.calls kj14 _ _ l1 t354 _ ?side1 ?side2 A37.out).mono ?_);(case side1 => repeat (first|exact (Kd.C_below HR1.out HB.out)|(with_reducible refine Kd.C_alloc ?_ _)|(with_reducible refine Kd.C_drewN ?_ _)|(with_reducible refine Kd.C_drew ?_)));(case side2 => exact HC1.out);rintro e w90 ⟨v355,rfl,ho0,hb⟩;refine ⟨_,rfl,?_⟩;have n0_:=Aside0.mk (Kd.R_below (by (with_reducible repeat (first|apply Kd.R_alloc|apply Kd.R_drewN|apply Kd.R_drew));exact HO_6.out) hb);have n1_:=Aside0.mk (Kd.S_below (by (with_reducible repeat (first|apply Kd.S_alloc|apply Kd.S_drewN|apply Kd.S_drew));exact HO_8.out) hb);have n2_:=Aside0.mk (Kd.R_elder' (by (with_reducible repeat (first|apply Kd.R_alloc|apply Kd.R_drewN|apply Kd.R_drew));exact HO_9.out) (Kd.R_base ho0) hb);have n3_:=Aside0.mk (Kd.R_below (by (with_reducible repeat (first|apply Kd.R_alloc|apply Kd.R_drewN|apply Kd.R_drew));exact HO_10.out) hb);have n4_:=Aside0.mk (Kd.S_below (by (with_reducible repeat (first|apply Kd.S_alloc|apply Kd.S_drewN|apply Kd.S_drew));exact HO352.out) hb);have n5_:=Aside0.mk (Kd.R_lower (Kd.R_new' ho0 (Kd.R_lt (by (with_reducible repeat (first|apply Kd.R_alloc|apply Kd.R_drewN|apply Kd.R_drew));exact HO_9.out))) (below_size (by repeat (first|(with_reducible first|exact HB.out|apply below_alloc|apply pw_below_drewN|apply below_drew1)|exact HB.out))));have n6_:=Aside0.mk (below_step (by repeat (first|(with_reducible first|exact HB.out|apply below_alloc|apply pw_below_drewN|apply below_drew1)|exact HB.out)) hb);clear HO_6;clear HO_8;clear HO_9;clear HO_10;clear HO352;clear HB;have HO_6:=n0_;have HO_8:=n1_;have HO_9:=n2_;have HO_10:=n3_;have HO352:=n4_;have HO356:=n5_;have HB:=n6_;clear n0_ n1_ n2_ n3_ n4_ n5_ n6_;(try clear hb);(try clear hb2);(try clear hk);(try clear hi);(try clear ho0);obtain ⟨Ao91,co91,eo91⟩:=Kd.R_slice HO356.out;subst eo91)|((with_reducible refine gate_callee (f:=19) rfl ?_);refine goesL_ (some 62) rfl rfl Try.func19 (by kernel_rfl) rfl #[.slice Ao25 t342.length co25,.slice Ao91 t354.length co91] rfl (by (try simp only [List.map_toArray,List.map_cons,List.map_nil]);first|done|rfl|(simp only [List.length_drop,List.length_take];rfl)) ?_;(with_reducible refine (laws_eqNoteS.calls kj14 _ _ t342 _ _ t354 false _ ?side1 ?side2 ?side3 ?side4 A38.out).mono ?_);(case side1 => repeat (first|exact (Kd.R_reads' HO_9.out).2.2|(with_reducible refine Kd.C_alloc ?_ _)|(with_reducible refine Kd.C_drewN ?_ _)|(with_reducible refine Kd.C_drew ?_)));(case side2 => exact (Kd.R_reads' HO_9.out).2.1);(case side3 => repeat (first|exact (Kd.R_reads' HO356.out).2.2|(with_reducible refine Kd.C_alloc ?_ _)|(with_reducible refine Kd.C_drewN ?_ _)|(with_reducible refine Kd.C_drew ?_)));(case side4 => exact (Kd.R_reads' HO356.out).2.1);rintro e w92 ⟨rfl,hb⟩;refine ⟨_,rfl,?_⟩;have n0_:=Aside0.mk (Kd.R_below (by (with_reducible repeat (first|apply Kd.R_alloc|apply Kd.R_drewN|apply Kd.R_drew));exact HO_6.out) hb);have n1_:=Aside0.mk (Kd.S_below (by (with_reducible repeat (first|apply Kd.S_alloc|apply Kd.S_drewN|apply Kd.S_drew));exact HO_8.out) hb);have n2_:=Aside0.mk (Kd.R_below (by (with_reducible repeat (first|apply Kd.R_alloc|apply Kd.R_drewN|apply Kd.R_drew));exact HO_9.out) hb);have n3_:=Aside0.mk (Kd.R_below (by (with_reducible repeat (first|apply Kd.R_alloc|apply Kd.R_drewN|apply Kd.R_drew));exact HO_10.out) hb);have n4_:=Aside0.mk (Kd.S_below (by (with_reducible repeat (first|apply Kd.S_alloc|apply Kd.S_drewN|apply Kd.S_drew));exact HO352.out) hb);have n5_:=Aside0.mk (Kd.R_below (by (with_reducible repeat (first|apply Kd.R_alloc|apply Kd.R_drewN|apply Kd.R_drew));exact HO356.out) hb);have n6_:=Aside0.mk (below_step (by repeat (first|(with_reducible first|exact HB.out|apply below_alloc|apply pw_below_drewN|apply below_drew1)|exact HB.out)) hb);clear HO_6;clear HO_8;clear HO_9;clear HO_10;clear HO352;clear HO356;clear HB;have HO_6:=n0_;have HO_8:=n1_;have HO_9:=n2_;have HO_10:=n3_;have HO352:=n4_;have HO356:=n5_;have HB:=n6_;clear n0_ n1_ n2_ n3_ n4_ n5_ n6_;(try clear hb);(try clear hb2);(try clear hk);(try clear hi)))
        go_ret
        exact ⟨by first|rfl|(simp [errW_none,errW_some] <;> rfl)|(simp [*,errW_none,errW_some] <;> rfl),by repeat (first|(with_reducible first|exact HB.out|apply below_alloc|apply pw_below_drewN|apply below_drew1)|exact HB.out)⟩
      ·
       replace c36:=Bool.eq_false_iff.mpr c36
       subst c36;have H1 : (some false) = some r:=by rw [if_neg (show ¬ (false = true) by decide)] at H;exact H
       clear H;have H:=H1;clear H1;obtain rfl:=Option.some.inj H;go_wp2_with (first|((with_reducible refine gate_callee (f:=33) rfl ?_);refine goesL_ (some 56) rfl rfl Try.func33 (by kernel_rfl) rfl #[.slice A0 l0.length c0] rfl (by (try simp only [List.map_toArray,List.map_cons,List.map_nil]);first|done|rfl|(simp only [List.length_drop,List.length_take];rfl)) ?_;(with_reducible refine (laws_toInstrumentS.calls kj14 _ _ l0 t350 _ ?side1 ?side2 A34.out).mono ?_);(case side1 => repeat (first|exact (Kd.C_below HR0.out HB.out)|(with_reducible refine Kd.C_alloc ?_ _)|(with_reducible refine Kd.C_drewN ?_ _)|(with_reducible refine Kd.C_drew ?_)));(case side2 => exact HC0.out);rintro e w93 ⟨v351,rfl,ho0,hb⟩;refine ⟨_,rfl,?_⟩;have n0_:=Aside0.mk (Kd.R_below (by (with_reducible repeat (first|apply Kd.R_alloc|apply Kd.R_drewN|apply Kd.R_drew));exact HO_6.out) hb);have n1_:=Aside0.mk (Kd.S_elder' (by (with_reducible repeat (first|apply Kd.S_alloc|apply Kd.S_drewN|apply Kd.S_drew));exact HO_8.out) (Kd.S_base ho0) hb);have n2_:=Aside0.mk (Kd.R_below (by (with_reducible repeat (first|apply Kd.R_alloc|apply Kd.R_drewN|apply Kd.R_drew));exact HO_9.out) hb);have n3_:=Aside0.mk (Kd.R_below (by (with_reducible repeat (first|apply Kd.R_alloc|apply Kd.R_drewN|apply Kd.R_drew));exact HO_10.out) hb);have n4_:=Aside0.mk (Kd.S_lower (Kd.S_new' (Kd.S_new' (Kd.S_new' ho0 (Kd.R_lt (by (with_reducible repeat (first|apply Kd.R_alloc|apply Kd.R_drewN|apply Kd.R_drew));exact HO_6.out))) (Kd.S_lt (by (with_reducible repeat (first|apply Kd.S_alloc|apply Kd.S_drewN|apply Kd.S_drew));exact HO_8.out))) (Kd.R_lt (by (with_reducible repeat (first|apply Kd.R_alloc|apply Kd.R_drewN|apply Kd.R_drew));exact HO_10.out))) (below_size (by repeat (first|(with_reducible first|exact HB.out|apply below_alloc|apply pw_below_drewN|apply below_drew1)|exact HB.out))));have n5_:=Aside0.mk (below_step (by repeat (first|(with_reducible first|exact HB.out|apply below_alloc|apply pw_below_drewN|apply below_drew1)|exact HB.out)) hb);clear HO_6;clear HO_8;clear HO_9;clear HO_10;clear HB;have HO_6:=n0_;have HO_8:=n1_;have HO_9:=n2_;have HO_10:=n3_;have HO352:=n4_;have HB:=n5_;clear n0_ n1_ n2_ n3_ n4_ n5_;(try clear hb);(try clear hb2);(try clear hk);(try clear hi);(try clear ho0);obtain ⟨Ao94,co94,eo94⟩:=Kd.S_slice HO352.out;subst eo94)|((with_reducible refine gate_callee (f:=35) rfl ?_);refine goesL_ (some 57) rfl rfl Try.func35 (by kernel_rfl) rfl #[.slice Ao24 t339.length co24,.slice Ao94 t350.length co94] rfl (by (try simp only [List.map_toArray,List.map_cons,List.map_nil]);first|done|rfl|(simp only [List.length_drop,List.length_take];rfl)) ?_;(with_reducible refine (laws_eqInstrumentS.calls kj14 _ _ t339 _ _ t350 false _ ?side1 ?side2 ?side3 ?side4 A35.out).mono ?_);(case side1 => repeat (first|exact (Kd.S_reads' HO_8.out).2.2|(with_reducible refine Kd.C_alloc ?_ _)|(with_reducible refine Kd.C_drewN ?_ _)|(with_reducible refine Kd.C_drew ?_)));(case side2 => exact (Kd.S_reads' HO_8.out).2.1);(case side3 => repeat (first|exact (Kd.S_reads' HO352.out).2.2|(with_reducible refine Kd.C_alloc ?_ _)|(with_reducible refine Kd.C_drewN ?_ _)|(with_reducible refine Kd.C_drew ?_)));(case side4 => exact (Kd.S_reads' HO352.out).2.1);rintro e w95 ⟨rfl,hb⟩;refine ⟨_,rfl,?_⟩;have n0_:=Aside0.mk (Kd.R_below (by (with_reducible repeat (first|apply Kd.R_alloc|apply Kd.R_drewN|apply Kd.R_drew));exact HO_6.out) hb);have n1_:=Aside0.mk (Kd.S_below (by (with_reducible repeat (first|apply Kd.S_alloc|apply Kd.S_drewN|apply Kd.S_drew));exact HO_8.out) hb);have n2_:=Aside0.mk (Kd.R_below (by (with_reducible repeat (first|apply Kd.R_alloc|apply Kd.R_drewN|apply Kd.R_drew));exact HO_9.out) hb);have n3_:=Aside0.mk (Kd.R_below (by (with_reducible repeat (first|apply Kd.R_alloc|apply Kd.R_drewN|apply Kd.R_drew));exact HO_10.out) hb);have n4_:=Aside0.mk (Kd.S_below (by (with_reducible repeat (first|apply Kd.S_alloc|apply Kd.S_drewN|apply Kd.S_drew));exact HO352.out) hb);have n5_:=Aside0.mk (below_step (by repeat (first|(with_reducible first|exact HB.out|apply below_alloc|apply pw_below_drewN|apply below_drew1)|exact HB.out)) hb);clear HO_6;clear HO_8;clear HO_9;clear HO_10;clear HO352;clear HB;have HO_6:=n0_;have HO_8:=n1_;have HO_9:=n2_;have HO_10:=n3_;have HO352:=n4_;have HB:=n5_;clear n0_ n1_ n2_ n3_ n4_ n5_;(try clear hb);(try clear hb2);(try clear hk);(try clear hi)))
       go_ret
       exact ⟨by first|rfl|(simp [errW_none,errW_some] <;> rfl)|(simp [*,errW_none,errW_some] <;> rfl),by repeat (first|(with_reducible first|exact HB.out|apply below_alloc|apply pw_below_drewN|apply below_drew1)|exact HB.out)⟩

end Go.Proofs.Ythkofipgondalaa.QFnExactWhoPlays
