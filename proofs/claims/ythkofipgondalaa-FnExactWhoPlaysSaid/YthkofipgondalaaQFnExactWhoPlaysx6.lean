-- WRITTEN BY qprint.py OF THIS SESSION: the kit's print with own contracts and turned arms; not the print's own text.
import Derived.Test.YthkofipgondalaaQFnExactWhoPlaysx0
import Derived.Test.YthkofipgondalaaQFnExactWhoPlaysx5
namespace Go.Proofs.Ythkofipgondalaa.QFnExactWhoPlays
open Go.RowKit Go.Proofs.YthkofipgondalaaW.PrintWords Go.Proofs.YthkofipgondalaaW.PrintLast Go.Proofs.YthkofipgondalaaW.PrintMore
attribute [local go_sem] max2_int min2_int max_two min_two max_three min_three max_four min_four   -- for this text's walks alone
set_option linter.unusedVariables false
set_option linter.unusedSimpArgs false

def spec_inFast.l0 : Nat → List (S85) → Int → List (List Int) → List (S85) → Int → Int → Option ((List (List Int)))
 | 0,_,_,_,_,_,_ => none
 | k + 1,x0,x1,x5,x9,x10,x11 => if x11 < x10 then (if 0 ≤ x11 then (if x11 < (x9.length : Int) then ((spec_inLast.f k x0 x11).bind fun t243 => (if t243 ≥ 0 then (if 0 ≤ t243 then (if t243 < (x0.length : Int) then (if (wrap64 (((rd_T85 x9 x11).f1) - ((rd_T85 x0 t243).f1))) < x1 then (if x5.length < 5864062014805 then (spec_inFast.l0 k x0 x1 (x5 ++ [(([t243,x11] : List Int))]) x9 x10 (wrap64 (x11 + 1))) else (none)) else (spec_inFast.l0 k x0 x1 x5 x9 x10 (wrap64 (x11 + 1)))) else (none)) else (none)) else (spec_inFast.l0 k x0 x1 x5 x9 x10 (wrap64 (x11 + 1))))) else (none)) else (none)) else (some x5)
def spec_inFast.f (k : Nat) (l0 : List (S85)) (a1 : Int) : Option ((List (List Int))):=spec_inFast.l0 k l0 a1 ([] : List (List Int)) l0 (l0.length : Int) 0
theorem spec_inFast.mono_l : ∀ k,(∀ y0 y1 y2 y3 y4 y5,LeO (spec_inFast.l0 k y0 y1 y2 y3 y4 y5) (spec_inFast.l0 (k + 1) y0 y1 y2 y3 y4 y5))
 | 0 => fun _ _ _ _ _ _ r h => by simp [spec_inFast.l0] at h
 | k + 1 => by
  have ih0:=spec_inFast.mono_l k
  ·
   intro y0 y1 y2 y3 y4 y5
   unfold spec_inFast.l0
   repeat' first
   | (with_reducible exact ih0 _ _ _ _ _ _)
   | (with_reducible exact spec_inLast.mono _ _ _)
   | (with_reducible exact LeO.refl _)
   | (with_reducible exact LeO.none _)
   | (with_reducible refine LeO.ite ?_ ?_)
   | (with_reducible refine LeO.bind ?_ (fun _ => ?_))
   | exact ih0 _ _ _ _ _ _
   | exact LeO.none _
   | refine LeO.ite ?_ ?_
   | refine LeO.bind ?_ (fun _ => ?_)
theorem spec_inFast.mono : ∀ a0 a1 k,LeO (spec_inFast.f k a0 a1) (spec_inFast.f (k + 1) a0 a1):=by
 intro a0 a1 k
 have ih0:=spec_inFast.mono_l k
 unfold spec_inFast.f
 repeat' first
   | (with_reducible exact ih0 _ _ _ _ _ _)
   | (with_reducible exact spec_inLast.mono _ _ _)
   | (with_reducible exact LeO.refl _)
   | (with_reducible exact LeO.none _)
   | (with_reducible refine LeO.ite ?_ ?_)
   | (with_reducible refine LeO.bind ?_ (fun _ => ?_))
   | exact ih0 _ _ _ _ _ _
   | exact LeO.none _
   | refine LeO.ite ?_ ?_
   | refine LeO.bind ?_ (fun _ => ?_)
set_option maxHeartbeats 8000000 in
set_option maxRecDepth 100000 in
theorem spec_inFast.calls (k : Nat) (A0 : Option Addr) (c0 : Nat) (l0 : List (S85)) (a1 : Int) (r : List (List Int)) (w : World) (hr0 : Kd.C k85 w A0 l0.length l0) (hc0 : l0.length ≤ c0) (h : spec_inFast.f k l0 a1 = some r) :
  Calls Try.prog 171 #[.slice A0 l0.length c0,.int .i64 a1] w fun e w' => ∃ v0_ : Value,e = .returned (v0_) ∧ Kd.S (Kd.slice 3 (Kd.int .i64)) 24 w' w.heap.size (fun _ => True) v0_ r ∧ Below w.heap.size w w':=by
 have hu85:=Try.underlying85
 have HR0:=Aside0.mk hr0
 have HC0:=Aside0.mk hc0
 clear hr0 hc0
 have HB:=Aside0.mk (Below.refl w.heap.size w)
 have H : (spec_inFast.l0 k l0 a1 ([] : List (List Int)) l0 (l0.length : Int) 0) = some r:=h
 clear h
 have H':=Aside0.mk H
 clear H
 go_enter Try.func171,Try.ntmps171
 go_wp2
 repeat (go_quiet (fail);try go_wp2)
 go_loopg [5,11] k (fun kq v5 v11 w' => ∃ (x5_1 : List (List Int)) (x11_1 : Int),v11 = .int .i64 x11_1 ∧ Aside0 (spec_inFast.l0 kq l0 a1 x5_1 l0 (l0.length : Int) x11_1 = some r) ∧ Aside0 (kq ≤ k) ∧ Aside0 (Kd.S (Kd.slice 3 (Kd.int .i64)) 24 w' w.heap.size (fun _ => True) v5 x5_1) ∧ Aside0 (Below w.heap.size w w'))
 case atStart => exact ⟨(([] : List (List Int))),(0),(by first|rfl|(simp;done)|(simp [*];done)),H',⟨Nat.le_refl _⟩,⟨by first|exact Kd.S_nil _ _ _ _ _|exact Kd.N_nil _ _ _ _ _|exact Kd.V_nil _ _ _ _ _|exact Kd.Q_nil _ _ _ _ _|exact Kd.R_nil _ _ _ _ _⟩,⟨by repeat (first|(with_reducible first|exact HB.out|apply below_alloc|apply pw_below_drewN|apply below_drew1)|exact HB.out)⟩⟩
 case round =>
  clear H';try clear c1
  try clear p2
  obtain ⟨x5_1,x11_1,rfl,HA,HK1,HO_5,HB⟩:=hrel
  cases gk with
  | zero => exact absurd HA.out (by simp [spec_inFast.l0])
  | succ k1 =>
   have H:=HA.out
   clear HA;simp only [spec_inFast.l0] at H;by_cases c3 : x11_1 < (l0.length : Int)
   ·
    rw [if_pos c3] at H
    have c3b0 : decide (x11_1 < (l0.length : Int)) = true:=decide_eq_true c3
    clear c3;by_cases c4 : 0 ≤ x11_1
    ·
     rw [if_pos c4] at H
     have c4b0 : decide (0 ≤ x11_1) = true:=decide_eq_true c4
     clear c4;by_cases c5 : x11_1 < (l0.length : Int)
     ·
      rw [if_pos c5] at H
      have c5b0 : decide (x11_1 < (l0.length : Int)) = true:=decide_eq_true c5
      clear c5;replace H:=Option.bind_eq_some_iff.mp H;obtain ⟨t243,A60,H⟩:=H;replace H : (if t243 ≥ 0 then (if 0 ≤ t243 then (if t243 < (l0.length : Int) then (if (wrap64 (((rd_T85 l0 x11_1).f1) - ((rd_T85 l0 t243).f1))) < a1 then (if x5_1.length < 5864062014805 then (spec_inFast.l0 k1 l0 a1 (x5_1 ++ [(([t243,x11_1] : List Int))]) l0 (l0.length : Int) (wrap64 (x11_1 + 1))) else (none)) else (spec_inFast.l0 k1 l0 a1 x5_1 l0 (l0.length : Int) (wrap64 (x11_1 + 1)))) else (none)) else (none)) else (spec_inFast.l0 k1 l0 a1 x5_1 l0 (l0.length : Int) (wrap64 (x11_1 + 1)))) = some r:=H;have A6:=Aside0.mk A60;clear A60;by_cases c7 : t243 ≥ 0
      ·
       rw [if_pos c7] at H
       have c7b0 : decide (0 ≤ t243) = true:=decide_eq_true c7
       clear c7;by_cases c8 : 0 ≤ t243
       ·
        rw [if_pos c8] at H
        have c8b0 : decide (0 ≤ t243) = true:=decide_eq_true c8
        clear c8;by_cases c9 : t243 < (l0.length : Int)
        ·
         rw [if_pos c9] at H
         have c9b0 : decide (t243 < (l0.length : Int)) = true:=decide_eq_true c9
         clear c9;by_cases c10 : (wrap64 (((rd_T85 l0 x11_1).f1) - ((rd_T85 l0 t243).f1))) < a1
         ·
          rw [if_pos c10] at H
          have c10b0 : decide ((wrap64 (((rd_T85 l0 x11_1).f1) - ((rd_T85 l0 t243).f1))) < a1) = true:=decide_eq_true c10
          clear c10;obtain ⟨y245,hy245⟩ : ∃ y_ : List Int,y_ = (([t243,x11_1] : List Int)):=⟨_,rfl⟩;replace H : (if x5_1.length < 5864062014805 then (spec_inFast.l0 k1 l0 a1 (x5_1 ++ [y245]) l0 (l0.length : Int) (wrap64 (x11_1 + 1))) else (none)) = some r:=by first|(rw [hy245];exact H)|(have H2_:=(Option.bind_some _ _).symm.trans H;rw [hy245];exact H2_)|exact (Option.bind_some _ _).symm.trans H|exact H
          have Ny245:=Aside0.mk hy245;clear hy245;by_cases c11 : x5_1.length < 5864062014805
          ·
           rw [if_pos c11] at H
           have LMc11:=Aside0.mk c11;clear c11;obtain ⟨y248,hy248⟩ : ∃ y_ : List (List Int),y_ = (x5_1 ++ [y245]):=⟨_,rfl⟩;replace H : (spec_inFast.l0 k1 l0 a1 y248 l0 (l0.length : Int) (wrap64 (x11_1 + 1))) = some r:=by first|(rw [hy248];exact H)|(have H2_:=(Option.bind_some _ _).symm.trans H;rw [hy248];exact H2_)|exact (Option.bind_some _ _).symm.trans H|exact H
           have Ny248:=Aside0.mk hy248;clear hy248;have H':=Aside0.mk H;clear H;have p241 : 0 ≤ (x11_1 : Int):=of_decide_eq_true (by assumption)
           have q241 : x11_1 < (l0.length : Int):=of_decide_eq_true (by assumption)
           obtain ⟨ad241,e241,hx241_0,hx241_1,hx241_2⟩:=at_T85 HR0.out x11_1 p241 q241
           cases e241
           replace hx241_0:=(HB.out.cell (World.block_lt_of_cell? w _ hx241_0)).trans hx241_0
           replace hx241_1:=(HB.out.cell (World.block_lt_of_cell? w _ hx241_1)).trans hx241_1
           replace hx241_2:=(HB.out.cell (World.block_lt_of_cell? w _ hx241_2)).trans hx241_2
           replace p241:=eq_true p241;replace q241:=eq_true q241;go_wp2_with (first|((with_reducible refine gate_dst (N:=7) rfl ?_);refine box_event ?hg (N:=7) ?hd (cs:=#[.int .i64 0,.int .i64 0,.int .i64 0]) (t:=85) ?hr ?_;(case hd => rfl);(case hg => rfl);(case hr => first|(go_simp;done)|(go_simp;rfl));intro gb242 hg w12 hbox hb;have n0_:=Aside0.mk (Kd.S_below (by (with_reducible repeat (first|apply Kd.S_alloc|apply Kd.S_drewN|apply Kd.S_drew));exact HO_5.out) hb);have n1_:=Aside0.mk (below_step (by repeat (first|(with_reducible first|exact HB.out|apply below_alloc|apply pw_below_drewN|apply below_drew1)|exact HB.out)) hb);have n2_:=Aside0.mk (hbox);have n3_:=Aside0.mk ((by rw [hg];exact (below_size (by repeat (first|(with_reducible first|exact HB.out|apply below_alloc|apply pw_below_drewN|apply below_drew1)|exact HB.out))) : w.heap.size ≤ gb242));have n4_:=Aside0.mk ((by rw [hg];exact (below_size (by repeat (first|(with_reducible first|exact HB.out|apply below_alloc|apply pw_below_drewN|apply below_drew1)|exact HB.out))) : w.heap.size ≤ gb242));clear HO_5;clear HB;have HO_5:=n0_;have HB:=n1_;have BK242:=n2_;have GW242:=n3_;have GE242:=n4_;clear n0_ n1_ n2_ n3_ n4_;clear hb hbox hg;have hcz13_0 : w12.cell? ⟨gb242,0,none⟩ = some (.int .i64 0):=(blk_cell BK242.out 0).trans rfl;have hcz13_1 : w12.cell? ⟨gb242,1,none⟩ = some (.int .i64 0):=(blk_cell BK242.out 1).trans rfl;have hcz13_2 : w12.cell? ⟨gb242,2,none⟩ = some (.int .i64 0):=(blk_cell BK242.out 2).trans rfl;have hfz13_0:=blk_frozen BK242.out 0;have hfz13_1:=blk_frozen BK242.out 1;have hfz13_2:=blk_frozen BK242.out 2)|(go_at_call 149;(with_reducible refine (spec_inLast.calls k1 _ _ l0 x11_1 t243 _ ?side1 ?side2 A6.out).mono ?_);(case side1 => exact Kd.C_below HR0.out (by repeat (first|(with_reducible first|exact HB.out|apply below_alloc|apply pw_below_drewN|apply below_drew1|refine below_set ?_ GE242.out)|exact HB.out)));(case side2 => exact HC0.out);rintro e w' ⟨rfl,⟨nd,rfl⟩⟩;(try first|exact ⟨rfl,_,World.drewN_drewN _ _ _⟩|exact ⟨rfl,_,Eq.trans (World.drewN_drewN _ _ _) (congrArg (World.drewN _) (Nat.add_assoc _ _ _))⟩);have p244 : 0 ≤ (t243 : Int):=of_decide_eq_true (by assumption);have q244 : t243 < (l0.length : Int):=of_decide_eq_true (by assumption);obtain ⟨ad244,e244,hx244_0,hx244_1,hx244_2⟩:=at_T85 HR0.out t243 p244 q244;obtain rfl : ad241 = ad244:=(by injection e244);have hn244_0 : ad241.block ≠ gb242:=Nat.ne_of_lt (Nat.lt_of_lt_of_le (by have:=World.block_lt_of_cell? _ _ hx244_0;first|rwa [add_block] at this|exact this) GW242.out);have hn244_1 : ad241.block ≠ gb242:=Nat.ne_of_lt (Nat.lt_of_lt_of_le (by have:=World.block_lt_of_cell? _ _ hx244_0;first|rwa [add_block] at this|exact this) GW242.out);have hn244_2 : ad241.block ≠ gb242:=Nat.ne_of_lt (Nat.lt_of_lt_of_le (by have:=World.block_lt_of_cell? _ _ hx244_0;first|rwa [add_block] at this|exact this) GW242.out);replace hx244_0:=(HB.out.cell (World.block_lt_of_cell? w _ hx244_0)).trans hx244_0;replace hx244_1:=(HB.out.cell (World.block_lt_of_cell? w _ hx244_1)).trans hx244_1;replace hx244_2:=(HB.out.cell (World.block_lt_of_cell? w _ hx244_2)).trans hx244_2;replace hx244_0:=(cell_far (p:=⟨gb242,0,none⟩) (by first|(rw [add_block];exact hn244_0)|(show (Addr.add _ _).block ≠ _;rw [add_block];exact hn244_0)|exact hn244_0) (.int .i64 ((rd_T85 l0 x11_1).f0))).trans hx244_0;replace hx244_1:=(cell_far (p:=⟨gb242,0,none⟩) (by first|(rw [add_block];exact hn244_0)|(show (Addr.add _ _).block ≠ _;rw [add_block];exact hn244_0)|exact hn244_0) (.int .i64 ((rd_T85 l0 x11_1).f0))).trans hx244_1;replace hx244_2:=(cell_far (p:=⟨gb242,0,none⟩) (by first|(rw [add_block];exact hn244_0)|(show (Addr.add _ _).block ≠ _;rw [add_block];exact hn244_0)|exact hn244_0) (.int .i64 ((rd_T85 l0 x11_1).f0))).trans hx244_2;replace hx244_0:=(cell_far (p:=⟨gb242,1,none⟩) (by first|(rw [add_block];exact hn244_1)|(show (Addr.add _ _).block ≠ _;rw [add_block];exact hn244_1)|exact hn244_1) (.int .i64 ((rd_T85 l0 x11_1).f1))).trans hx244_0;replace hx244_1:=(cell_far (p:=⟨gb242,1,none⟩) (by first|(rw [add_block];exact hn244_1)|(show (Addr.add _ _).block ≠ _;rw [add_block];exact hn244_1)|exact hn244_1) (.int .i64 ((rd_T85 l0 x11_1).f1))).trans hx244_1;replace hx244_2:=(cell_far (p:=⟨gb242,1,none⟩) (by first|(rw [add_block];exact hn244_1)|(show (Addr.add _ _).block ≠ _;rw [add_block];exact hn244_1)|exact hn244_1) (.int .i64 ((rd_T85 l0 x11_1).f1))).trans hx244_2;replace hx244_0:=(cell_far (p:=⟨gb242,2,none⟩) (by first|(rw [add_block];exact hn244_2)|(show (Addr.add _ _).block ≠ _;rw [add_block];exact hn244_2)|exact hn244_2) (.int .i64 ((rd_T85 l0 x11_1).f2))).trans hx244_0;replace hx244_1:=(cell_far (p:=⟨gb242,2,none⟩) (by first|(rw [add_block];exact hn244_2)|(show (Addr.add _ _).block ≠ _;rw [add_block];exact hn244_2)|exact hn244_2) (.int .i64 ((rd_T85 l0 x11_1).f2))).trans hx244_1;replace hx244_2:=(cell_far (p:=⟨gb242,2,none⟩) (by first|(rw [add_block];exact hn244_2)|(show (Addr.add _ _).block ≠ _;rw [add_block];exact hn244_2)|exact hn244_2) (.int .i64 ((rd_T85 l0 x11_1).f2))).trans hx244_2;(try have hy244_0:=fun (n_ : Nat) => (show (((((w12.drewN n_).setCell ⟨gb242,0,none⟩ (.int .i64 ((rd_T85 l0 x11_1).f0))).setCell ⟨gb242,1,none⟩ (.int .i64 ((rd_T85 l0 x11_1).f1))).setCell ⟨gb242,2,none⟩ (.int .i64 ((rd_T85 l0 x11_1).f2)))).cell? _ = some _ from hx244_0));(try have hy244_1:=fun (n_ : Nat) => (show (((((w12.drewN n_).setCell ⟨gb242,0,none⟩ (.int .i64 ((rd_T85 l0 x11_1).f0))).setCell ⟨gb242,1,none⟩ (.int .i64 ((rd_T85 l0 x11_1).f1))).setCell ⟨gb242,2,none⟩ (.int .i64 ((rd_T85 l0 x11_1).f2)))).cell? _ = some _ from hx244_1));(try have hy244_2:=fun (n_ : Nat) => (show (((((w12.drewN n_).setCell ⟨gb242,0,none⟩ (.int .i64 ((rd_T85 l0 x11_1).f0))).setCell ⟨gb242,1,none⟩ (.int .i64 ((rd_T85 l0 x11_1).f1))).setCell ⟨gb242,2,none⟩ (.int .i64 ((rd_T85 l0 x11_1).f2)))).cell? _ = some _ from hx244_2));clear hn244_0;clear hn244_1;clear hn244_2;replace p244:=eq_true p244;replace q244:=eq_true q244)|((with_reducible refine gate_dst (N:=36) rfl ?_);refine Kd.R_lit (Kd.int .i64) _ 3 ?hg (N:=36) ?hd (xs:=([t243,x11_1] : List Int)) (inner:=[.int .i64 t243,.int .i64 x11_1]) (ok:=fun _ => True) (okp:=fun _ => True) ?hr ?hp (fun _ hk => hk) trivial (Below.refl _ _) (Nat.le_refl _) (by simp) ?_;(case hd => rfl);(case hg => rfl);(case hr => first|(go_simp;done)|(go_simp;rfl));(case hp => exact (Reps.one (show Kd.M (Kd.int .i64) _ _ _ t243 [.int .i64 t243] from rfl) (Reps.one (show Kd.M (Kd.int .i64) _ _ _ x11_1 [.int .i64 x11_1] from rfl) (Reps.none _ _))));intro v246 w14 ho15 hb hg_ hnew_;clear hg_ hnew_;(first|rw [← Ny245.out] at ho15|(simp only [Int.reduceToNat] at ho15;rw [← Ny245.out] at ho15));have n0_:=Aside0.mk (Kd.S_elder' (by (with_reducible repeat (first|apply Kd.S_alloc|apply Kd.S_drewN|apply Kd.S_drew));exact (Kd.S_mono (Kd.S_far (p:=⟨gb242,2,none⟩) (Kd.S_far (p:=⟨gb242,1,none⟩) (Kd.S_far (p:=⟨gb242,0,none⟩) (Kd.S_types HO_5.out BK242.out (by decide)) (fun _ hk => hk.2) (.int .i64 ((rd_T85 l0 x11_1).f0))) (fun _ hk => hk.2) (.int .i64 ((rd_T85 l0 x11_1).f1))) (fun _ hk => hk.2) (.int .i64 ((rd_T85 l0 x11_1).f2))) (fun _ h_ => h_.1))) (Kd.R_base ho15) hb);have n1_:=Aside0.mk (Kd.R_lower ho15 (below_size (by repeat (first|(with_reducible first|exact HB.out|apply below_alloc|apply pw_below_drewN|apply below_drew1|refine below_set ?_ GE242.out)|exact HB.out))));have n2_:=Aside0.mk (blk_below (g:=gb242) (o:=.cells #[.int .i64 ((rd_T85 l0 x11_1).f0),.int .i64 ((rd_T85 l0 x11_1).f1),.int .i64 ((rd_T85 l0 x11_1).f2)] 85 (0,0)) (by (with_reducible repeat (first|refine blk_drewN ?_ _|refine blk_drew ?_|refine blk_alloc ?_ _));refine blk_put (cs:=#[.int .i64 ((rd_T85 l0 x11_1).f0),.int .i64 ((rd_T85 l0 x11_1).f1),.int .i64 0]) ?_ 2 _ rfl;(with_reducible repeat (first|refine blk_drewN ?_ _|refine blk_drew ?_|refine blk_alloc ?_ _));refine blk_put (cs:=#[.int .i64 ((rd_T85 l0 x11_1).f0),.int .i64 0,.int .i64 0]) ?_ 1 _ rfl;(with_reducible repeat (first|refine blk_drewN ?_ _|refine blk_drew ?_|refine blk_alloc ?_ _));refine blk_put (cs:=#[.int .i64 0,.int .i64 0,.int .i64 0]) ?_ 0 _ rfl;(with_reducible repeat (first|refine blk_drewN ?_ _|refine blk_drew ?_|refine blk_alloc ?_ _));exact BK242.out) hb);have n3_:=Aside0.mk (below_step (by repeat (first|(with_reducible first|exact HB.out|apply below_alloc|apply pw_below_drewN|apply below_drew1|refine below_set ?_ GE242.out)|exact HB.out)) hb);clear HO_5;clear BK242;clear HB;have HO_5:=n0_;have HO247:=n1_;have BK242:=n2_;have HB:=n3_;clear n0_ n1_ n2_ n3_;clear hb ho15;obtain ⟨Ao17,co17,eo17⟩:=Kd.R_slice HO247.out;subst eo17)|((with_reducible refine gate_builtin (b:=.append) (xs:=#[.tmp 33,.tmp 37]) rfl ?_);at_builtin;refine Kd.S_append (Kd.slice 3 (Kd.int .i64)) (w0:=w) w.heap.size rfl (.tmp 33) (.tmp 37) 152 24 (.slice none 0 0) 24 rfl Try.underlying152 info24 rfl (by decide) (by omega) u5 x5_1 y245 [.slice Ao17 y245.length co17] (fun _ => True) (fun k_ => some k_ = (.slice Ao17 y245.length co17 : Value).ownBlock) rfl rfl ?aP (fun k_ hk_ => ((Kd.R_mono (ok':=fun k_ => ((fun _ => True)) k_ ∧ some k_ ≠ (u5 : Value).ownBlock) (Kd.R_apart' (HO247.out) (Kd.S_typed HO_5.out) (by decide)) (fun k_ hk => ⟨trivial,hk.2⟩))).1 k_ hk_.symm) ?aF ?aO ?aB ?aS ?aL ?_;(case aP => exact Kd.M_row (Kd.R_mono (Kd.R_tight rfl (Kd.R_mono (ok':=fun k_ => ((fun _ => True)) k_ ∧ some k_ ≠ (u5 : Value).ownBlock) (Kd.R_apart' (HO247.out) (Kd.S_typed HO_5.out) (by decide)) (fun k_ hk => ⟨trivial,hk.2⟩))) (fun _ h_ => h_)));(case aB => exact (by repeat (first|(with_reducible first|exact HB.out|apply below_alloc|apply pw_below_drewN|apply below_drew1|refine below_set ?_ GE242.out)|exact HB.out)));(case aF => exact (fun _ _ => trivial));(case aO => exact (by (with_reducible repeat (first|apply Kd.S_alloc|apply Kd.S_drewN|apply Kd.S_drew));exact Kd.S_mono HO_5.out (fun k_ hk => ⟨trivial,fun e_ => hk.2 e_⟩)));(case aS => exact (below_size (by repeat (first|(with_reducible first|exact HB.out|apply below_alloc|apply pw_below_drewN|apply below_drew1|refine below_set ?_ GE242.out)|exact HB.out))));(case aL => have:=LMc11.out;omega);intro v249 w16 ho hb hg hat;rw [← Ny248.out] at ho;have n0_:=Aside0.mk (blk_grown (g:=gb242) (o:=.cells #[.int .i64 ((rd_T85 l0 x11_1).f0),.int .i64 ((rd_T85 l0 x11_1).f1),.int .i64 ((rd_T85 l0 x11_1).f2)] 85 (0,0)) (by (with_reducible repeat (first|refine blk_drewN ?_ _|refine blk_drew ?_|refine blk_alloc ?_ _));exact BK242.out) hg (Kd.S_ne HO_5.out BK242.out (by decide)));have n1_:=Aside0.mk (hb);have n2_:=Aside0.mk (ho);clear BK242;clear HB;clear HO_5;clear HO247;have BK242:=n0_;have HB:=n1_;have HO250:=n2_;clear n0_ n1_ n2_;clear ho hb hg hat))
           repeat (go_quiet (fail);try go_wp2_with (first|((with_reducible refine gate_dst (N:=36) rfl ?_);refine Kd.R_lit (Kd.int .i64) _ 3 ?hg (N:=36) ?hd (xs:=([t243,x11_1] : List Int)) (inner:=[.int .i64 t243,.int .i64 x11_1]) (ok:=fun _ => True) (okp:=fun _ => True) ?hr ?hp (fun _ hk => hk) trivial (Below.refl _ _) (Nat.le_refl _) (by simp) ?_;(case hd => rfl);(case hg => rfl);(case hr => first|(go_simp;done)|(go_simp;rfl));(case hp => exact (Reps.one (show Kd.M (Kd.int .i64) _ _ _ t243 [.int .i64 t243] from rfl) (Reps.one (show Kd.M (Kd.int .i64) _ _ _ x11_1 [.int .i64 x11_1] from rfl) (Reps.none _ _))));intro v246 w14 ho15 hb hg_ hnew_;clear hg_ hnew_;(first|rw [← Ny245.out] at ho15|(simp only [Int.reduceToNat] at ho15;rw [← Ny245.out] at ho15));have n0_:=Aside0.mk (Kd.S_elder' (by (with_reducible repeat (first|apply Kd.S_alloc|apply Kd.S_drewN|apply Kd.S_drew));exact (Kd.S_mono (Kd.S_far (p:=⟨gb242,2,none⟩) (Kd.S_far (p:=⟨gb242,1,none⟩) (Kd.S_far (p:=⟨gb242,0,none⟩) (Kd.S_types HO_5.out BK242.out (by decide)) (fun _ hk => hk.2) (.int .i64 ((rd_T85 l0 x11_1).f0))) (fun _ hk => hk.2) (.int .i64 ((rd_T85 l0 x11_1).f1))) (fun _ hk => hk.2) (.int .i64 ((rd_T85 l0 x11_1).f2))) (fun _ h_ => h_.1))) (Kd.R_base ho15) hb);have n1_:=Aside0.mk (Kd.R_lower ho15 (below_size (by repeat (first|(with_reducible first|exact HB.out|apply below_alloc|apply pw_below_drewN|apply below_drew1|refine below_set ?_ GE242.out)|exact HB.out))));have n2_:=Aside0.mk (blk_below (g:=gb242) (o:=.cells #[.int .i64 ((rd_T85 l0 x11_1).f0),.int .i64 ((rd_T85 l0 x11_1).f1),.int .i64 ((rd_T85 l0 x11_1).f2)] 85 (0,0)) (by (with_reducible repeat (first|refine blk_drewN ?_ _|refine blk_drew ?_|refine blk_alloc ?_ _));refine blk_put (cs:=#[.int .i64 ((rd_T85 l0 x11_1).f0),.int .i64 ((rd_T85 l0 x11_1).f1),.int .i64 0]) ?_ 2 _ rfl;(with_reducible repeat (first|refine blk_drewN ?_ _|refine blk_drew ?_|refine blk_alloc ?_ _));refine blk_put (cs:=#[.int .i64 ((rd_T85 l0 x11_1).f0),.int .i64 0,.int .i64 0]) ?_ 1 _ rfl;(with_reducible repeat (first|refine blk_drewN ?_ _|refine blk_drew ?_|refine blk_alloc ?_ _));refine blk_put (cs:=#[.int .i64 0,.int .i64 0,.int .i64 0]) ?_ 0 _ rfl;(with_reducible repeat (first|refine blk_drewN ?_ _|refine blk_drew ?_|refine blk_alloc ?_ _));exact BK242.out) hb);have n3_:=Aside0.mk (below_step (by repeat (first|(with_reducible first|exact HB.out|apply below_alloc|apply pw_below_drewN|apply below_drew1|refine below_set ?_ GE242.out)|exact HB.out)) hb);clear HO_5;clear BK242;clear HB;have HO_5:=n0_;have HO247:=n1_;have BK242:=n2_;have HB:=n3_;clear n0_ n1_ n2_ n3_;clear hb ho15;obtain ⟨Ao17,co17,eo17⟩:=Kd.R_slice HO247.out;subst eo17)|((with_reducible refine gate_builtin (b:=.append) (xs:=#[.tmp 33,.tmp 37]) rfl ?_);at_builtin;refine Kd.S_append (Kd.slice 3 (Kd.int .i64)) (w0:=w) w.heap.size rfl (.tmp 33) (.tmp 37) 152 24 (.slice none 0 0) 24 rfl Try.underlying152 info24 rfl (by decide) (by omega) u5 x5_1 y245 [.slice Ao17 y245.length co17] (fun _ => True) (fun k_ => some k_ = (.slice Ao17 y245.length co17 : Value).ownBlock) rfl rfl ?aP (fun k_ hk_ => ((Kd.R_mono (ok':=fun k_ => ((fun _ => True)) k_ ∧ some k_ ≠ (u5 : Value).ownBlock) (Kd.R_apart' (HO247.out) (Kd.S_typed HO_5.out) (by decide)) (fun k_ hk => ⟨trivial,hk.2⟩))).1 k_ hk_.symm) ?aF ?aO ?aB ?aS ?aL ?_;(case aP => exact Kd.M_row (Kd.R_mono (Kd.R_tight rfl (Kd.R_mono (ok':=fun k_ => ((fun _ => True)) k_ ∧ some k_ ≠ (u5 : Value).ownBlock) (Kd.R_apart' (HO247.out) (Kd.S_typed HO_5.out) (by decide)) (fun k_ hk => ⟨trivial,hk.2⟩))) (fun _ h_ => h_)));(case aB => exact (by repeat (first|(with_reducible first|exact HB.out|apply below_alloc|apply pw_below_drewN|apply below_drew1|refine below_set ?_ GE242.out)|exact HB.out)));(case aF => exact (fun _ _ => trivial));(case aO => exact (by (with_reducible repeat (first|apply Kd.S_alloc|apply Kd.S_drewN|apply Kd.S_drew));exact Kd.S_mono HO_5.out (fun k_ hk => ⟨trivial,fun e_ => hk.2 e_⟩)));(case aS => exact (below_size (by repeat (first|(with_reducible first|exact HB.out|apply below_alloc|apply pw_below_drewN|apply below_drew1|refine below_set ?_ GE242.out)|exact HB.out))));(case aL => have:=LMc11.out;omega);intro v249 w16 ho hb hg hat;rw [← Ny248.out] at ho;have n0_:=Aside0.mk (blk_grown (g:=gb242) (o:=.cells #[.int .i64 ((rd_T85 l0 x11_1).f0),.int .i64 ((rd_T85 l0 x11_1).f1),.int .i64 ((rd_T85 l0 x11_1).f2)] 85 (0,0)) (by (with_reducible repeat (first|refine blk_drewN ?_ _|refine blk_drew ?_|refine blk_alloc ?_ _));exact BK242.out) hg (Kd.S_ne HO_5.out BK242.out (by decide)));have n1_:=Aside0.mk (hb);have n2_:=Aside0.mk (ho);clear BK242;clear HB;clear HO_5;clear HO247;have BK242:=n0_;have HB:=n1_;have HO250:=n2_;clear n0_ n1_ n2_;clear ho hb hg hat)))
           go_roundg k1
           case measure => have:=HK1.out;omega
           case rel => exact ⟨(y248),(wrap64 (x11_1 + 1)),(by first|rfl|(simp;done)|(simp [*];done)),H',⟨by have:=HK1.out;omega⟩,⟨by (with_reducible repeat (first|apply Kd.S_alloc|apply Kd.S_drewN|apply Kd.S_drew));exact HO250.out⟩,⟨by repeat (first|(with_reducible first|exact HB.out|apply below_alloc|apply pw_below_drewN|apply below_drew1|refine below_set ?_ GE242.out)|exact HB.out)⟩⟩
          ·
           rw [if_neg c11] at H
           exact absurd H (by simp)
         ·
          rw [if_neg c10] at H
          have c10b0 : decide ((wrap64 (((rd_T85 l0 x11_1).f1) - ((rd_T85 l0 t243).f1))) < a1) = false:=decide_eq_false c10
          clear c10;have H':=Aside0.mk H;clear H;have p241 : 0 ≤ (x11_1 : Int):=of_decide_eq_true (by assumption)
          have q241 : x11_1 < (l0.length : Int):=of_decide_eq_true (by assumption)
          obtain ⟨ad241,e241,hx241_0,hx241_1,hx241_2⟩:=at_T85 HR0.out x11_1 p241 q241
          cases e241
          replace hx241_0:=(HB.out.cell (World.block_lt_of_cell? w _ hx241_0)).trans hx241_0
          replace hx241_1:=(HB.out.cell (World.block_lt_of_cell? w _ hx241_1)).trans hx241_1
          replace hx241_2:=(HB.out.cell (World.block_lt_of_cell? w _ hx241_2)).trans hx241_2
          replace p241:=eq_true p241;replace q241:=eq_true q241;go_wp2_with (first|((with_reducible refine gate_dst (N:=7) rfl ?_);refine box_event ?hg (N:=7) ?hd (cs:=#[.int .i64 0,.int .i64 0,.int .i64 0]) (t:=85) ?hr ?_;(case hd => rfl);(case hg => rfl);(case hr => first|(go_simp;done)|(go_simp;rfl));intro gb242 hg w18 hbox hb;have n0_:=Aside0.mk (Kd.S_below (by (with_reducible repeat (first|apply Kd.S_alloc|apply Kd.S_drewN|apply Kd.S_drew));exact HO_5.out) hb);have n1_:=Aside0.mk (below_step (by repeat (first|(with_reducible first|exact HB.out|apply below_alloc|apply pw_below_drewN|apply below_drew1)|exact HB.out)) hb);have n2_:=Aside0.mk (hbox);have n3_:=Aside0.mk ((by rw [hg];exact (below_size (by repeat (first|(with_reducible first|exact HB.out|apply below_alloc|apply pw_below_drewN|apply below_drew1)|exact HB.out))) : w.heap.size ≤ gb242));have n4_:=Aside0.mk ((by rw [hg];exact (below_size (by repeat (first|(with_reducible first|exact HB.out|apply below_alloc|apply pw_below_drewN|apply below_drew1)|exact HB.out))) : w.heap.size ≤ gb242));clear HO_5;clear HB;have HO_5:=n0_;have HB:=n1_;have BK242:=n2_;have GW242:=n3_;have GE242:=n4_;clear n0_ n1_ n2_ n3_ n4_;clear hb hbox hg;have hcz19_0 : w18.cell? ⟨gb242,0,none⟩ = some (.int .i64 0):=(blk_cell BK242.out 0).trans rfl;have hcz19_1 : w18.cell? ⟨gb242,1,none⟩ = some (.int .i64 0):=(blk_cell BK242.out 1).trans rfl;have hcz19_2 : w18.cell? ⟨gb242,2,none⟩ = some (.int .i64 0):=(blk_cell BK242.out 2).trans rfl;have hfz19_0:=blk_frozen BK242.out 0;have hfz19_1:=blk_frozen BK242.out 1;have hfz19_2:=blk_frozen BK242.out 2)|(go_at_call 149;(with_reducible refine (spec_inLast.calls k1 _ _ l0 x11_1 t243 _ ?side1 ?side2 A6.out).mono ?_);(case side1 => exact Kd.C_below HR0.out (by repeat (first|(with_reducible first|exact HB.out|apply below_alloc|apply pw_below_drewN|apply below_drew1|refine below_set ?_ GE242.out)|exact HB.out)));(case side2 => exact HC0.out);rintro e w' ⟨rfl,⟨nd,rfl⟩⟩;(try first|exact ⟨rfl,_,World.drewN_drewN _ _ _⟩|exact ⟨rfl,_,Eq.trans (World.drewN_drewN _ _ _) (congrArg (World.drewN _) (Nat.add_assoc _ _ _))⟩);have p244 : 0 ≤ (t243 : Int):=of_decide_eq_true (by assumption);have q244 : t243 < (l0.length : Int):=of_decide_eq_true (by assumption);obtain ⟨ad244,e244,hx244_0,hx244_1,hx244_2⟩:=at_T85 HR0.out t243 p244 q244;obtain rfl : ad241 = ad244:=(by injection e244);have hn244_0 : ad241.block ≠ gb242:=Nat.ne_of_lt (Nat.lt_of_lt_of_le (by have:=World.block_lt_of_cell? _ _ hx244_0;first|rwa [add_block] at this|exact this) GW242.out);have hn244_1 : ad241.block ≠ gb242:=Nat.ne_of_lt (Nat.lt_of_lt_of_le (by have:=World.block_lt_of_cell? _ _ hx244_0;first|rwa [add_block] at this|exact this) GW242.out);have hn244_2 : ad241.block ≠ gb242:=Nat.ne_of_lt (Nat.lt_of_lt_of_le (by have:=World.block_lt_of_cell? _ _ hx244_0;first|rwa [add_block] at this|exact this) GW242.out);replace hx244_0:=(HB.out.cell (World.block_lt_of_cell? w _ hx244_0)).trans hx244_0;replace hx244_1:=(HB.out.cell (World.block_lt_of_cell? w _ hx244_1)).trans hx244_1;replace hx244_2:=(HB.out.cell (World.block_lt_of_cell? w _ hx244_2)).trans hx244_2;replace hx244_0:=(cell_far (p:=⟨gb242,0,none⟩) (by first|(rw [add_block];exact hn244_0)|(show (Addr.add _ _).block ≠ _;rw [add_block];exact hn244_0)|exact hn244_0) (.int .i64 ((rd_T85 l0 x11_1).f0))).trans hx244_0;replace hx244_1:=(cell_far (p:=⟨gb242,0,none⟩) (by first|(rw [add_block];exact hn244_0)|(show (Addr.add _ _).block ≠ _;rw [add_block];exact hn244_0)|exact hn244_0) (.int .i64 ((rd_T85 l0 x11_1).f0))).trans hx244_1;replace hx244_2:=(cell_far (p:=⟨gb242,0,none⟩) (by first|(rw [add_block];exact hn244_0)|(show (Addr.add _ _).block ≠ _;rw [add_block];exact hn244_0)|exact hn244_0) (.int .i64 ((rd_T85 l0 x11_1).f0))).trans hx244_2;replace hx244_0:=(cell_far (p:=⟨gb242,1,none⟩) (by first|(rw [add_block];exact hn244_1)|(show (Addr.add _ _).block ≠ _;rw [add_block];exact hn244_1)|exact hn244_1) (.int .i64 ((rd_T85 l0 x11_1).f1))).trans hx244_0;replace hx244_1:=(cell_far (p:=⟨gb242,1,none⟩) (by first|(rw [add_block];exact hn244_1)|(show (Addr.add _ _).block ≠ _;rw [add_block];exact hn244_1)|exact hn244_1) (.int .i64 ((rd_T85 l0 x11_1).f1))).trans hx244_1;replace hx244_2:=(cell_far (p:=⟨gb242,1,none⟩) (by first|(rw [add_block];exact hn244_1)|(show (Addr.add _ _).block ≠ _;rw [add_block];exact hn244_1)|exact hn244_1) (.int .i64 ((rd_T85 l0 x11_1).f1))).trans hx244_2;replace hx244_0:=(cell_far (p:=⟨gb242,2,none⟩) (by first|(rw [add_block];exact hn244_2)|(show (Addr.add _ _).block ≠ _;rw [add_block];exact hn244_2)|exact hn244_2) (.int .i64 ((rd_T85 l0 x11_1).f2))).trans hx244_0;replace hx244_1:=(cell_far (p:=⟨gb242,2,none⟩) (by first|(rw [add_block];exact hn244_2)|(show (Addr.add _ _).block ≠ _;rw [add_block];exact hn244_2)|exact hn244_2) (.int .i64 ((rd_T85 l0 x11_1).f2))).trans hx244_1;replace hx244_2:=(cell_far (p:=⟨gb242,2,none⟩) (by first|(rw [add_block];exact hn244_2)|(show (Addr.add _ _).block ≠ _;rw [add_block];exact hn244_2)|exact hn244_2) (.int .i64 ((rd_T85 l0 x11_1).f2))).trans hx244_2;(try have hy244_0:=fun (n_ : Nat) => (show (((((w18.drewN n_).setCell ⟨gb242,0,none⟩ (.int .i64 ((rd_T85 l0 x11_1).f0))).setCell ⟨gb242,1,none⟩ (.int .i64 ((rd_T85 l0 x11_1).f1))).setCell ⟨gb242,2,none⟩ (.int .i64 ((rd_T85 l0 x11_1).f2)))).cell? _ = some _ from hx244_0));(try have hy244_1:=fun (n_ : Nat) => (show (((((w18.drewN n_).setCell ⟨gb242,0,none⟩ (.int .i64 ((rd_T85 l0 x11_1).f0))).setCell ⟨gb242,1,none⟩ (.int .i64 ((rd_T85 l0 x11_1).f1))).setCell ⟨gb242,2,none⟩ (.int .i64 ((rd_T85 l0 x11_1).f2)))).cell? _ = some _ from hx244_1));(try have hy244_2:=fun (n_ : Nat) => (show (((((w18.drewN n_).setCell ⟨gb242,0,none⟩ (.int .i64 ((rd_T85 l0 x11_1).f0))).setCell ⟨gb242,1,none⟩ (.int .i64 ((rd_T85 l0 x11_1).f1))).setCell ⟨gb242,2,none⟩ (.int .i64 ((rd_T85 l0 x11_1).f2)))).cell? _ = some _ from hx244_2));clear hn244_0;clear hn244_1;clear hn244_2;replace p244:=eq_true p244;replace q244:=eq_true q244))
          repeat (go_quiet (fail);try go_wp2)
          go_roundg k1
          case measure => have:=HK1.out;omega
          case rel => exact ⟨(x5_1),(wrap64 (x11_1 + 1)),(by first|rfl|(simp;done)|(simp [*];done)),H',⟨by have:=HK1.out;omega⟩,⟨by (with_reducible repeat (first|apply Kd.S_alloc|apply Kd.S_drewN|apply Kd.S_drew));exact Kd.S_mono (Kd.S_far (p:=⟨gb242,2,none⟩) (Kd.S_far (p:=⟨gb242,1,none⟩) (Kd.S_far (p:=⟨gb242,0,none⟩) (Kd.S_types HO_5.out BK242.out (by decide)) (fun _ hk => hk.2) (.int .i64 ((rd_T85 l0 x11_1).f0))) (fun _ hk => hk.2) (.int .i64 ((rd_T85 l0 x11_1).f1))) (fun _ hk => hk.2) (.int .i64 ((rd_T85 l0 x11_1).f2))) (fun _ hk => trivial)⟩,⟨by repeat (first|(with_reducible first|exact HB.out|apply below_alloc|apply pw_below_drewN|apply below_drew1|refine below_set ?_ GE242.out)|exact HB.out)⟩⟩
        ·
         rw [if_neg c9] at H
         exact absurd H (by simp)
       ·
        rw [if_neg c8] at H
        exact absurd H (by simp)
      ·
       rw [if_neg c7] at H
       have c7b0 : decide (0 ≤ t243) = false:=decide_eq_false c7
       clear c7;have H':=Aside0.mk H;clear H;have p241 : 0 ≤ (x11_1 : Int):=of_decide_eq_true (by assumption)
       have q241 : x11_1 < (l0.length : Int):=of_decide_eq_true (by assumption)
       obtain ⟨ad241,e241,hx241_0,hx241_1,hx241_2⟩:=at_T85 HR0.out x11_1 p241 q241
       cases e241
       replace hx241_0:=(HB.out.cell (World.block_lt_of_cell? w _ hx241_0)).trans hx241_0
       replace hx241_1:=(HB.out.cell (World.block_lt_of_cell? w _ hx241_1)).trans hx241_1
       replace hx241_2:=(HB.out.cell (World.block_lt_of_cell? w _ hx241_2)).trans hx241_2
       replace p241:=eq_true p241;replace q241:=eq_true q241;go_wp2_with (first|((with_reducible refine gate_dst (N:=7) rfl ?_);refine box_event ?hg (N:=7) ?hd (cs:=#[.int .i64 0,.int .i64 0,.int .i64 0]) (t:=85) ?hr ?_;(case hd => rfl);(case hg => rfl);(case hr => first|(go_simp;done)|(go_simp;rfl));intro gb242 hg w20 hbox hb;have n0_:=Aside0.mk (Kd.S_below (by (with_reducible repeat (first|apply Kd.S_alloc|apply Kd.S_drewN|apply Kd.S_drew));exact HO_5.out) hb);have n1_:=Aside0.mk (below_step (by repeat (first|(with_reducible first|exact HB.out|apply below_alloc|apply pw_below_drewN|apply below_drew1)|exact HB.out)) hb);have n2_:=Aside0.mk (hbox);have n3_:=Aside0.mk ((by rw [hg];exact (below_size (by repeat (first|(with_reducible first|exact HB.out|apply below_alloc|apply pw_below_drewN|apply below_drew1)|exact HB.out))) : w.heap.size ≤ gb242));have n4_:=Aside0.mk ((by rw [hg];exact (below_size (by repeat (first|(with_reducible first|exact HB.out|apply below_alloc|apply pw_below_drewN|apply below_drew1)|exact HB.out))) : w.heap.size ≤ gb242));clear HO_5;clear HB;have HO_5:=n0_;have HB:=n1_;have BK242:=n2_;have GW242:=n3_;have GE242:=n4_;clear n0_ n1_ n2_ n3_ n4_;clear hb hbox hg;have hcz21_0 : w20.cell? ⟨gb242,0,none⟩ = some (.int .i64 0):=(blk_cell BK242.out 0).trans rfl;have hcz21_1 : w20.cell? ⟨gb242,1,none⟩ = some (.int .i64 0):=(blk_cell BK242.out 1).trans rfl;have hcz21_2 : w20.cell? ⟨gb242,2,none⟩ = some (.int .i64 0):=(blk_cell BK242.out 2).trans rfl;have hfz21_0:=blk_frozen BK242.out 0;have hfz21_1:=blk_frozen BK242.out 1;have hfz21_2:=blk_frozen BK242.out 2)|(go_at_call 149;(with_reducible refine (spec_inLast.calls k1 _ _ l0 x11_1 t243 _ ?side1 ?side2 A6.out).mono ?_);(case side1 => exact Kd.C_below HR0.out (by repeat (first|(with_reducible first|exact HB.out|apply below_alloc|apply pw_below_drewN|apply below_drew1|refine below_set ?_ GE242.out)|exact HB.out)));(case side2 => exact HC0.out);rintro e w' ⟨rfl,⟨nd,rfl⟩⟩;(try first|exact ⟨rfl,_,World.drewN_drewN _ _ _⟩|exact ⟨rfl,_,Eq.trans (World.drewN_drewN _ _ _) (congrArg (World.drewN _) (Nat.add_assoc _ _ _))⟩)))
       repeat (go_quiet (fail);try go_wp2)
       go_roundg k1
       case measure => have:=HK1.out;omega
       case rel => exact ⟨(x5_1),(wrap64 (x11_1 + 1)),(by first|rfl|(simp;done)|(simp [*];done)),H',⟨by have:=HK1.out;omega⟩,⟨by (with_reducible repeat (first|apply Kd.S_alloc|apply Kd.S_drewN|apply Kd.S_drew));exact Kd.S_mono (Kd.S_far (p:=⟨gb242,2,none⟩) (Kd.S_far (p:=⟨gb242,1,none⟩) (Kd.S_far (p:=⟨gb242,0,none⟩) (Kd.S_types HO_5.out BK242.out (by decide)) (fun _ hk => hk.2) (.int .i64 ((rd_T85 l0 x11_1).f0))) (fun _ hk => hk.2) (.int .i64 ((rd_T85 l0 x11_1).f1))) (fun _ hk => hk.2) (.int .i64 ((rd_T85 l0 x11_1).f2))) (fun _ hk => trivial)⟩,⟨by repeat (first|(with_reducible first|exact HB.out|apply below_alloc|apply pw_below_drewN|apply below_drew1|refine below_set ?_ GE242.out)|exact HB.out)⟩⟩
     ·
      rw [if_neg c5] at H
      exact absurd H (by simp)
    ·
     rw [if_neg c4] at H
     exact absurd H (by simp)
   ·
    rw [if_neg c3] at H
    have c3b0 : decide (x11_1 < (l0.length : Int)) = false:=decide_eq_false c3
    clear c3;obtain rfl:=Option.some.inj H;go_wp2;repeat (go_quiet (fail);try go_wp2)
    go_ret
    exact ⟨_,by first|rfl|(simp [errW_none,errW_some] <;> rfl)|(simp [*,errW_none,errW_some] <;> rfl),by (with_reducible repeat (first|apply Kd.S_alloc|apply Kd.S_drewN|apply Kd.S_drew));exact HO_5.out,by repeat (first|(with_reducible first|exact HB.out|apply below_alloc|apply pw_below_drewN|apply below_drew1)|exact HB.out)⟩

def spec_inPlays.f (k : Nat) (l0_0 : List Int) (a0_1 : Int) (l1 : List (S85)) : Option (Bool):=(spec_inMissing.f k l0_0 a0_1 l1).bind fun t252 => (if (t252.length : Int) = 0 then ((spec_inFast.f k l1 a0_1).bind fun t255 => (some ((t255.length : Int) == 0))) else (some false))
theorem spec_inPlays.mono : ∀ a0 a1 a2 k,LeO (spec_inPlays.f k a0 a1 a2) (spec_inPlays.f (k + 1) a0 a1 a2):=by
 intro a0 a1 a2 k
 unfold spec_inPlays.f
 repeat' first
   | (with_reducible exact spec_inFast.mono _ _ _)
   | (with_reducible exact spec_inMissing.mono _ _ _ _)
   | (with_reducible exact LeO.refl _)
   | (with_reducible exact LeO.none _)
   | (with_reducible refine LeO.ite ?_ ?_)
   | (with_reducible refine LeO.bind ?_ (fun _ => ?_))
   | exact LeO.none _
   | refine LeO.ite ?_ ?_
   | refine LeO.bind ?_ (fun _ => ?_)
set_option maxHeartbeats 8000000 in
set_option maxRecDepth 100000 in
theorem spec_inPlays.calls (k : Nat) (A0_0 : Option Addr) (c0_0 : Nat) (l0_0 : List Int) (a0_1 : Int) (A1 : Option Addr) (c1 : Nat) (l1 : List (S85)) (r : Bool) (w : World) (hr0_0 : Kd.C (Kd.int .i64) w A0_0 l0_0.length l0_0) (hc0_0 : l0_0.length ≤ c0_0) (hr1 : Kd.C k85 w A1 l1.length l1) (hc1 : l1.length ≤ c1) (h : spec_inPlays.f k l0_0 a0_1 l1 = some r) :
  Calls Try.prog 154 #[.agg #[.slice A0_0 l0_0.length c0_0,.int .i64 a0_1],.slice A1 l1.length c1] w fun e w' => e = .returned (.bool r) ∧ Below w.heap.size w w':=by
 have hu102:=Try.underlying102
 have HR0_0:=Aside0.mk hr0_0
 have HC0_0:=Aside0.mk hc0_0
 clear hr0_0 hc0_0
 have HR1:=Aside0.mk hr1
 have HC1:=Aside0.mk hc1
 clear hr1 hc1
 have HB:=Aside0.mk (Below.refl w.heap.size w)
 have H : ((spec_inMissing.f k l0_0 a0_1 l1).bind fun t252 => (if (t252.length : Int) = 0 then ((spec_inFast.f k l1 a0_1).bind fun t255 => (some ((t255.length : Int) == 0))) else (some false))) = some r:=h
 clear h
 replace H:=Option.bind_eq_some_iff.mp H
 obtain ⟨t252,A30,H⟩:=H
 replace H : (if (t252.length : Int) = 0 then ((spec_inFast.f k l1 a0_1).bind fun t255 => (some ((t255.length : Int) == 0))) else (some false)) = some r:=H
 have A3:=Aside0.mk A30
 clear A30
 by_cases c4 : (t252.length : Int) = 0
 ·
  rw [if_pos c4] at H
  have c4b0 : ((t252.length : Int) == 0) = true:=beq_iff_eq.mpr c4
  have c4b1 : ((t252.length : Int) != 0) = false:=bne_eq_false_iff_eq.mpr c4
  clear c4;replace H:=Option.bind_eq_some_iff.mp H;obtain ⟨t255,A50,H⟩:=H;replace H : (some ((t255.length : Int) == 0)) = some r:=H;have A5:=Aside0.mk A50;clear A50;obtain rfl:=Option.some.inj H;go_enter Try.func154,Try.ntmps154;go_wp2_with (first|((with_reducible refine gate_dst (N:=2) rfl ?_);(try (refine gate_guard (by rfl) ?_;dsimp only));refine box_event ?hg (N:=2) ?hd (cs:=#[.slice A0_0 l0_0.length c0_0,.int .i64 a0_1]) (t:=102) ?hr ?_;(case hd => rfl);(case hg => rfl);(case hr => first|(go_simp;done)|(go_simp;rfl));intro gb251 hg w6 hbox hb;have n0_:=Aside0.mk (below_step (by repeat (first|(with_reducible first|exact HB.out|apply below_alloc|apply pw_below_drewN|apply below_drew1)|exact HB.out)) hb);have n1_:=Aside0.mk (hbox);have n2_:=Aside0.mk ((by rw [hg];exact (below_size (by repeat (first|(with_reducible first|exact HB.out|apply below_alloc|apply pw_below_drewN|apply below_drew1)|exact HB.out))) : w.heap.size ≤ gb251));have n3_:=Aside0.mk ((by rw [hg];exact (below_size (by repeat (first|(with_reducible first|exact HB.out|apply below_alloc|apply pw_below_drewN|apply below_drew1)|exact HB.out))) : w.heap.size ≤ gb251));clear HB;have HB:=n0_;have BK251:=n1_;have GW251:=n2_;have GE251:=n3_;clear n0_ n1_ n2_ n3_;clear hb hbox hg;have hcz7_0 : w6.cell? ⟨gb251,0,none⟩ = some (.slice A0_0 l0_0.length c0_0):=(blk_cell BK251.out 0).trans rfl;have hcz7_1 : w6.cell? ⟨gb251,1,none⟩ = some (.int .i64 a0_1):=(blk_cell BK251.out 1).trans rfl;have hfz7_0:=blk_frozen BK251.out 0;have hfz7_1:=blk_frozen BK251.out 1)|((with_reducible refine gate_callee (f:=170) rfl ?_);refine goesL_ (some 7) rfl rfl Try.func170 (by kernel_rfl) rfl #[.agg #[.slice A0_0 l0_0.length c0_0,.int .i64 a0_1],.slice A1 l1.length c1] rfl (by (try simp only [List.map_toArray,List.map_cons,List.map_nil]);first|done|rfl|(simp only [List.length_drop,List.length_take];rfl)) ?_;(with_reducible refine (spec_inMissing.calls k _ _ l0_0 a0_1 _ _ l1 t252 _ ?side1 ?side2 ?side3 ?side4 A3.out).mono ?_);(case side1 => repeat (first|exact (Kd.C_below HR0_0.out HB.out)|(with_reducible refine Kd.C_alloc ?_ _)|(with_reducible refine Kd.C_drewN ?_ _)|(with_reducible refine Kd.C_drew ?_)));(case side2 => exact HC0_0.out);(case side3 => repeat (first|exact (Kd.C_below HR1.out HB.out)|(with_reducible refine Kd.C_alloc ?_ _)|(with_reducible refine Kd.C_drewN ?_ _)|(with_reducible refine Kd.C_drew ?_)));(case side4 => exact HC1.out);rintro e w8 ⟨v253,rfl,ho0,hb⟩;refine ⟨_,rfl,?_⟩;have n0_:=Aside0.mk (Kd.R_lower ho0 (below_size (by repeat (first|(with_reducible first|exact HB.out|apply below_alloc|apply pw_below_drewN|apply below_drew1|refine below_set ?_ GE251.out)|exact HB.out))));have n1_:=Aside0.mk (blk_below (g:=gb251) (o:=.cells #[.slice A0_0 l0_0.length c0_0,.int .i64 a0_1] 102 (0,0)) (by (with_reducible repeat (first|refine blk_drewN ?_ _|refine blk_drew ?_|refine blk_alloc ?_ _));exact BK251.out) hb);have n2_:=Aside0.mk (below_step (by repeat (first|(with_reducible first|exact HB.out|apply below_alloc|apply pw_below_drewN|apply below_drew1|refine below_set ?_ GE251.out)|exact HB.out)) hb);clear BK251;clear HB;have HO254:=n0_;have BK251:=n1_;have HB:=n2_;clear n0_ n1_ n2_;(try clear hb);(try clear hb2);(try clear hk);(try clear hi);(try clear ho0);obtain ⟨Ao9,co9,eo9⟩:=Kd.R_slice HO254.out;subst eo9;have hcz10_0 : w8.cell? ⟨gb251,0,none⟩ = some (.slice A0_0 l0_0.length c0_0):=(blk_cell BK251.out 0).trans rfl;have hcz10_1 : w8.cell? ⟨gb251,1,none⟩ = some (.int .i64 a0_1):=(blk_cell BK251.out 1).trans rfl;have hfz10_0:=blk_frozen BK251.out 0;have hfz10_1:=blk_frozen BK251.out 1)|(go_at_call 171;(with_reducible refine (spec_inFast.calls k _ _ l1 a0_1 t255 _ ?side1 ?side2 A5.out).mono ?_);(case side1 => repeat (first|exact (Kd.C_below HR1.out HB.out)|(with_reducible refine Kd.C_alloc ?_ _)|(with_reducible refine Kd.C_drewN ?_ _)|(with_reducible refine Kd.C_drew ?_)));(case side2 => exact HC1.out);rintro e w11 ⟨v256,rfl,ho0,hb⟩;have n0_:=Aside0.mk (Kd.R_below (by (with_reducible repeat (first|apply Kd.R_alloc|apply Kd.R_drewN|apply Kd.R_drew));exact HO254.out) hb);have n1_:=Aside0.mk (Kd.S_lower (Kd.S_new' ho0 (Kd.R_lt (by (with_reducible repeat (first|apply Kd.R_alloc|apply Kd.R_drewN|apply Kd.R_drew));exact HO254.out))) (below_size (by repeat (first|(with_reducible first|exact HB.out|apply below_alloc|apply pw_below_drewN|apply below_drew1|refine below_set ?_ GE251.out)|exact HB.out))));have n2_:=Aside0.mk (blk_below (g:=gb251) (o:=.cells #[.slice A0_0 l0_0.length c0_0,.int .i64 a0_1] 102 (0,0)) (by (with_reducible repeat (first|refine blk_drewN ?_ _|refine blk_drew ?_|refine blk_alloc ?_ _));exact BK251.out) hb);have n3_:=Aside0.mk (below_step (by repeat (first|(with_reducible first|exact HB.out|apply below_alloc|apply pw_below_drewN|apply below_drew1|refine below_set ?_ GE251.out)|exact HB.out)) hb);clear HO254;clear BK251;clear HB;have HO254:=n0_;have HO257:=n1_;have BK251:=n2_;have HB:=n3_;clear n0_ n1_ n2_ n3_;(try clear hb);(try clear hb2);(try clear hk);(try clear hi);(try clear ho0);obtain ⟨Ao12,co12,eo12⟩:=Kd.S_slice HO257.out;subst eo12))
  go_ret
  exact ⟨by first|rfl|(simp [errW_none,errW_some] <;> rfl)|(simp [*,errW_none,errW_some] <;> rfl),by repeat (first|(with_reducible first|exact HB.out|apply below_alloc|apply pw_below_drewN|apply below_drew1|refine below_set ?_ GE251.out)|exact HB.out)⟩
 ·
  rw [if_neg c4] at H
  have c4b0 : ((t252.length : Int) == 0) = false:=beq_eq_false_iff_ne.mpr c4
  have c4b1 : ((t252.length : Int) != 0) = true:=bne_iff_ne.mpr c4
  have c4b2 : ¬ (t252 = []):=fun h_ => c4 (by rw [h_];rfl)
  obtain rfl:=Option.some.inj H
  go_enter Try.func154,Try.ntmps154
  go_wp2_with (first|((with_reducible refine gate_dst (N:=2) rfl ?_);(try (refine gate_guard (by rfl) ?_;dsimp only));refine box_event ?hg (N:=2) ?hd (cs:=#[.slice A0_0 l0_0.length c0_0,.int .i64 a0_1]) (t:=102) ?hr ?_;(case hd => rfl);(case hg => rfl);(case hr => first|(go_simp;done)|(go_simp;rfl));intro gb251 hg w13 hbox hb;have n0_:=Aside0.mk (below_step (by repeat (first|(with_reducible first|exact HB.out|apply below_alloc|apply pw_below_drewN|apply below_drew1)|exact HB.out)) hb);have n1_:=Aside0.mk (hbox);have n2_:=Aside0.mk ((by rw [hg];exact (below_size (by repeat (first|(with_reducible first|exact HB.out|apply below_alloc|apply pw_below_drewN|apply below_drew1)|exact HB.out))) : w.heap.size ≤ gb251));have n3_:=Aside0.mk ((by rw [hg];exact (below_size (by repeat (first|(with_reducible first|exact HB.out|apply below_alloc|apply pw_below_drewN|apply below_drew1)|exact HB.out))) : w.heap.size ≤ gb251));clear HB;have HB:=n0_;have BK251:=n1_;have GW251:=n2_;have GE251:=n3_;clear n0_ n1_ n2_ n3_;clear hb hbox hg;have hcz14_0 : w13.cell? ⟨gb251,0,none⟩ = some (.slice A0_0 l0_0.length c0_0):=(blk_cell BK251.out 0).trans rfl;have hcz14_1 : w13.cell? ⟨gb251,1,none⟩ = some (.int .i64 a0_1):=(blk_cell BK251.out 1).trans rfl;have hfz14_0:=blk_frozen BK251.out 0;have hfz14_1:=blk_frozen BK251.out 1)|((with_reducible refine gate_callee (f:=170) rfl ?_);refine goesL_ (some 7) rfl rfl Try.func170 (by kernel_rfl) rfl #[.agg #[.slice A0_0 l0_0.length c0_0,.int .i64 a0_1],.slice A1 l1.length c1] rfl (by (try simp only [List.map_toArray,List.map_cons,List.map_nil]);first|done|rfl|(simp only [List.length_drop,List.length_take];rfl)) ?_;(with_reducible refine (spec_inMissing.calls k _ _ l0_0 a0_1 _ _ l1 t252 _ ?side1 ?side2 ?side3 ?side4 A3.out).mono ?_);(case side1 => repeat (first|exact (Kd.C_below HR0_0.out HB.out)|(with_reducible refine Kd.C_alloc ?_ _)|(with_reducible refine Kd.C_drewN ?_ _)|(with_reducible refine Kd.C_drew ?_)));(case side2 => exact HC0_0.out);(case side3 => repeat (first|exact (Kd.C_below HR1.out HB.out)|(with_reducible refine Kd.C_alloc ?_ _)|(with_reducible refine Kd.C_drewN ?_ _)|(with_reducible refine Kd.C_drew ?_)));(case side4 => exact HC1.out);rintro e w15 ⟨v253,rfl,ho0,hb⟩;refine ⟨_,rfl,?_⟩;have n0_:=Aside0.mk (Kd.R_lower ho0 (below_size (by repeat (first|(with_reducible first|exact HB.out|apply below_alloc|apply pw_below_drewN|apply below_drew1|refine below_set ?_ GE251.out)|exact HB.out))));have n1_:=Aside0.mk (blk_below (g:=gb251) (o:=.cells #[.slice A0_0 l0_0.length c0_0,.int .i64 a0_1] 102 (0,0)) (by (with_reducible repeat (first|refine blk_drewN ?_ _|refine blk_drew ?_|refine blk_alloc ?_ _));exact BK251.out) hb);have n2_:=Aside0.mk (below_step (by repeat (first|(with_reducible first|exact HB.out|apply below_alloc|apply pw_below_drewN|apply below_drew1|refine below_set ?_ GE251.out)|exact HB.out)) hb);clear BK251;clear HB;have HO254:=n0_;have BK251:=n1_;have HB:=n2_;clear n0_ n1_ n2_;(try clear hb);(try clear hb2);(try clear hk);(try clear hi);(try clear ho0);obtain ⟨Ao16,co16,eo16⟩:=Kd.R_slice HO254.out;subst eo16))
  go_ret
  exact ⟨by first|rfl|(simp [errW_none,errW_some] <;> rfl)|(simp [*,errW_none,errW_some] <;> rfl),by repeat (first|(with_reducible first|exact HB.out|apply below_alloc|apply pw_below_drewN|apply below_drew1|refine below_set ?_ GE251.out)|exact HB.out)⟩

def spec_clWho.l0 : Nat → List (S85) → List Int → List (S102) → Int → Int → Option (List Int)
 | 0,_,_,_,_,_ => none
 | k + 1,x1,x5,x8,x9,x10 => if x10 < x9 then (if 0 ≤ x10 then (if x10 < (x8.length : Int) then ((spec_inPlays.f k ((rd_T102 x8 x10).f0) ((rd_T102 x8 x10).f1) x1).bind fun t260 => (if t260 = true then (if x5.length < 17592186044416 then (spec_clWho.l0 k x1 (x5 ++ [x10]) x8 x9 (wrap64 (x10 + 1))) else (none)) else (spec_clWho.l0 k x1 x5 x8 x9 (wrap64 (x10 + 1))))) else (none)) else (none)) else (some x5)
def spec_clWho.f (k : Nat) (l0 : List (S102)) (l1 : List (S85)) : Option (List Int):=spec_clWho.l0 k l1 ([] : List Int) l0 (l0.length : Int) 0
theorem spec_clWho.mono_l : ∀ k,(∀ y0 y1 y2 y3 y4,LeO (spec_clWho.l0 k y0 y1 y2 y3 y4) (spec_clWho.l0 (k + 1) y0 y1 y2 y3 y4))
 | 0 => fun _ _ _ _ _ r h => by simp [spec_clWho.l0] at h
 | k + 1 => by
  have ih0:=spec_clWho.mono_l k
  ·
   intro y0 y1 y2 y3 y4
   unfold spec_clWho.l0
   repeat' first
   | (with_reducible exact ih0 _ _ _ _ _)
   | (with_reducible exact spec_inPlays.mono _ _ _ _)
   | (with_reducible exact LeO.refl _)
   | (with_reducible exact LeO.none _)
   | (with_reducible refine LeO.ite ?_ ?_)
   | (with_reducible refine LeO.bind ?_ (fun _ => ?_))
   | exact ih0 _ _ _ _ _
   | exact LeO.none _
   | refine LeO.ite ?_ ?_
   | refine LeO.bind ?_ (fun _ => ?_)
theorem spec_clWho.mono : ∀ a0 a1 k,LeO (spec_clWho.f k a0 a1) (spec_clWho.f (k + 1) a0 a1):=by
 intro a0 a1 k
 have ih0:=spec_clWho.mono_l k
 unfold spec_clWho.f
 repeat' first
   | (with_reducible exact ih0 _ _ _ _ _)
   | (with_reducible exact spec_inPlays.mono _ _ _ _)
   | (with_reducible exact LeO.refl _)
   | (with_reducible exact LeO.none _)
   | (with_reducible refine LeO.ite ?_ ?_)
   | (with_reducible refine LeO.bind ?_ (fun _ => ?_))
   | exact ih0 _ _ _ _ _
   | exact LeO.none _
   | refine LeO.ite ?_ ?_
   | refine LeO.bind ?_ (fun _ => ?_)
set_option maxHeartbeats 8000000 in
set_option maxRecDepth 100000 in
theorem spec_clWho.calls (k : Nat) (A0 : Option Addr) (c0 : Nat) (l0 : List (S102)) (A1 : Option Addr) (c1 : Nat) (l1 : List (S85)) (r : List Int) (w : World) (hr0 : Kd.C k102 w A0 l0.length l0) (hc0 : l0.length ≤ c0) (hr1 : Kd.C k85 w A1 l1.length l1) (hc1 : l1.length ≤ c1) (h : spec_clWho.f k l0 l1 = some r) :
  Calls Try.prog 95 #[.slice A0 l0.length c0,.slice A1 l1.length c1] w fun e w' => ∃ v0_ : Value,e = .returned (v0_) ∧ Kd.R (Kd.int .i64) 3 w' w.heap.size (fun _ => True) v0_ r ∧ Below w.heap.size w w':=by
 have hu102:=Try.underlying102
 have HR0:=Aside0.mk hr0
 have HC0:=Aside0.mk hc0
 clear hr0 hc0
 have HR1:=Aside0.mk hr1
 have HC1:=Aside0.mk hc1
 clear hr1 hc1
 have HB:=Aside0.mk (Below.refl w.heap.size w)
 have H : (spec_clWho.l0 k l1 ([] : List Int) l0 (l0.length : Int) 0) = some r:=h
 clear h
 have H':=Aside0.mk H
 clear H
 go_enter Try.func95,Try.ntmps95
 go_wp2
 go_loopg [5,10] k (fun kq v5 v10 w' => ∃ (x5_1 : List Int) (x10_1 : Int),v10 = .int .i64 x10_1 ∧ Aside0 (spec_clWho.l0 kq l1 x5_1 l0 (l0.length : Int) x10_1 = some r) ∧ Aside0 (kq ≤ k) ∧ Aside0 (Kd.R (Kd.int .i64) 3 w' w.heap.size (fun _ => True) v5 x5_1) ∧ Aside0 (Below w.heap.size w w'))
 case atStart => exact ⟨(([] : List Int)),(0),(by first|rfl|(simp;done)|(simp [*];done)),H',⟨Nat.le_refl _⟩,⟨by first|exact Kd.R_nil _ _ _ _ _|exact Kd.N_nil _ _ _ _ _|exact Kd.V_nil _ _ _ _ _|exact Kd.Q_nil _ _ _ _ _|exact Kd.S_nil _ _ _ _ _⟩,⟨by repeat (first|(with_reducible first|exact HB.out|apply below_alloc|apply pw_below_drewN|apply below_drew1)|exact HB.out)⟩⟩
 case round =>
  clear H';try clear c1
  try clear p2
  obtain ⟨x5_1,x10_1,rfl,HA,HK1,HO_5,HB⟩:=hrel
  cases gk with
  | zero => exact absurd HA.out (by simp [spec_clWho.l0])
  | succ k1 =>
   have H:=HA.out
   clear HA;simp only [spec_clWho.l0] at H;by_cases c3 : x10_1 < (l0.length : Int)
   ·
    rw [if_pos c3] at H
    have c3b0 : decide (x10_1 < (l0.length : Int)) = true:=decide_eq_true c3
    clear c3;by_cases c4 : 0 ≤ x10_1
    ·
     rw [if_pos c4] at H
     have c4b0 : decide (0 ≤ x10_1) = true:=decide_eq_true c4
     clear c4;by_cases c5 : x10_1 < (l0.length : Int)
     ·
      rw [if_pos c5] at H
      have c5b0 : decide (x10_1 < (l0.length : Int)) = true:=decide_eq_true c5
      clear c5;replace H:=Option.bind_eq_some_iff.mp H;obtain ⟨t260,A60,H⟩:=H;replace H : (if t260 = true then (if x5_1.length < 17592186044416 then (spec_clWho.l0 k1 l1 (x5_1 ++ [x10_1]) l0 (l0.length : Int) (wrap64 (x10_1 + 1))) else (none)) else (spec_clWho.l0 k1 l1 x5_1 l0 (l0.length : Int) (wrap64 (x10_1 + 1)))) = some r:=H;have A6:=Aside0.mk A60;clear A60;by_cases c7 : t260 = true
      ·
       subst c7;have H1 : (if x5_1.length < 17592186044416 then (spec_clWho.l0 k1 l1 (x5_1 ++ [x10_1]) l0 (l0.length : Int) (wrap64 (x10_1 + 1))) else (none)) = some r:=by rw [if_pos rfl] at H;exact H
       clear H;have H:=H1;clear H1;by_cases c8 : x5_1.length < 17592186044416
       ·
        rw [if_pos c8] at H
        have LMc8:=Aside0.mk c8;clear c8;obtain ⟨y261,hy261⟩ : ∃ y_ : List Int,y_ = (x5_1 ++ [x10_1]):=⟨_,rfl⟩;replace H : (spec_clWho.l0 k1 l1 y261 l0 (l0.length : Int) (wrap64 (x10_1 + 1))) = some r:=by first|(rw [hy261];exact H)|(have H2_:=(Option.bind_some _ _).symm.trans H;rw [hy261];exact H2_)|exact (Option.bind_some _ _).symm.trans H|exact H
        have Ny261:=Aside0.mk hy261;clear hy261;have H':=Aside0.mk H;clear H;have p258 : 0 ≤ (x10_1 : Int):=of_decide_eq_true (by assumption)
        have q258 : x10_1 < (l0.length : Int):=of_decide_eq_true (by assumption)
        obtain ⟨ad258,A258_0,c258_0,e258,hx258_0,hx258_1,hl258_0,hi258_0⟩:=at_T102 HR0.out x10_1 p258 q258
        cases e258
        replace hx258_0:=(HB.out.cell (World.block_lt_of_cell? w _ hx258_0)).trans hx258_0
        replace hx258_1:=(HB.out.cell (World.block_lt_of_cell? w _ hx258_1)).trans hx258_1
        have HR258_0:=Aside0.mk hi258_0;have HC258_0:=Aside0.mk hl258_0;clear hi258_0 hl258_0;replace p258:=eq_true p258;replace q258:=eq_true q258;go_wp2_with (first|((with_reducible refine gate_dst (N:=7) rfl ?_);refine box_event ?hg (N:=7) ?hd (cs:=#[.slice none 0 0,.int .i64 0]) (t:=102) ?hr ?_;(case hd => rfl);(case hg => rfl);(case hr => first|(go_simp;done)|(go_simp;rfl));intro gb259 hg w9 hbox hb;have n0_:=Aside0.mk (Kd.R_below (by (with_reducible repeat (first|apply Kd.R_alloc|apply Kd.R_drewN|apply Kd.R_drew));exact HO_5.out) hb);have n1_:=Aside0.mk (below_step (by repeat (first|(with_reducible first|exact HB.out|apply below_alloc|apply pw_below_drewN|apply below_drew1)|exact HB.out)) hb);have n2_:=Aside0.mk (hbox);have n3_:=Aside0.mk ((by rw [hg];exact (below_size (by repeat (first|(with_reducible first|exact HB.out|apply below_alloc|apply pw_below_drewN|apply below_drew1)|exact HB.out))) : w.heap.size ≤ gb259));have n4_:=Aside0.mk ((by rw [hg];exact (below_size (by repeat (first|(with_reducible first|exact HB.out|apply below_alloc|apply pw_below_drewN|apply below_drew1)|exact HB.out))) : w.heap.size ≤ gb259));clear HO_5;clear HB;have HO_5:=n0_;have HB:=n1_;have BK259:=n2_;have GW259:=n3_;have GE259:=n4_;clear n0_ n1_ n2_ n3_ n4_;clear hb hbox hg;have hcz10_0 : w9.cell? ⟨gb259,0,none⟩ = some (.slice none 0 0):=(blk_cell BK259.out 0).trans rfl;have hcz10_1 : w9.cell? ⟨gb259,1,none⟩ = some (.int .i64 0):=(blk_cell BK259.out 1).trans rfl;have hfz10_0:=blk_frozen BK259.out 0;have hfz10_1:=blk_frozen BK259.out 1)|((with_reducible refine gate_callee (f:=154) rfl ?_);refine goesL_ (some 17) rfl rfl Try.func154 (by kernel_rfl) rfl #[.agg #[.slice A258_0 ((rd_T102 l0 x10_1).f0).length c258_0,.int .i64 ((rd_T102 l0 x10_1).f1)],.slice A1 l1.length c1] rfl (by (try simp only [List.map_toArray,List.map_cons,List.map_nil]);first|done|rfl|(simp only [List.length_drop,List.length_take];rfl)) ?_;(with_reducible refine (spec_inPlays.calls k1 _ _ ((rd_T102 l0 x10_1).f0) ((rd_T102 l0 x10_1).f1) _ _ l1 true _ ?side1 ?side2 ?side3 ?side4 A6.out).mono ?_);(case side1 => exact Kd.C_below HR258_0.out (by repeat (first|(with_reducible first|exact HB.out|apply below_alloc|apply pw_below_drewN|apply below_drew1|refine below_set ?_ GE259.out)|exact HB.out)));(case side2 => exact HC258_0.out);(case side3 => exact Kd.C_below HR1.out (by repeat (first|(with_reducible first|exact HB.out|apply below_alloc|apply pw_below_drewN|apply below_drew1|refine below_set ?_ GE259.out)|exact HB.out)));(case side4 => exact HC1.out);rintro e w11 ⟨rfl,hb⟩;refine ⟨_,rfl,?_⟩;have n0_:=Aside0.mk (Kd.R_below (by (with_reducible repeat (first|apply Kd.R_alloc|apply Kd.R_drewN|apply Kd.R_drew));exact (Kd.R_mono (Kd.R_far (p:=⟨gb259,1,none⟩) (Kd.R_far (p:=⟨gb259,0,none⟩) (Kd.R_types HO_5.out BK259.out (by decide)) (fun _ hk => hk.2) (.slice A258_0 ((rd_T102 l0 x10_1).f0).length c258_0)) (fun _ hk => hk.2) (.int .i64 ((rd_T102 l0 x10_1).f1))) (fun _ h_ => h_.1))) hb);have n1_:=Aside0.mk (blk_below (g:=gb259) (o:=.cells #[.slice A258_0 ((rd_T102 l0 x10_1).f0).length c258_0,.int .i64 ((rd_T102 l0 x10_1).f1)] 102 (0,0)) (by (with_reducible repeat (first|refine blk_drewN ?_ _|refine blk_drew ?_|refine blk_alloc ?_ _));refine blk_put (cs:=#[.slice A258_0 ((rd_T102 l0 x10_1).f0).length c258_0,.int .i64 0]) ?_ 1 _ rfl;(with_reducible repeat (first|refine blk_drewN ?_ _|refine blk_drew ?_|refine blk_alloc ?_ _));refine blk_put (cs:=#[.slice none 0 0,.int .i64 0]) ?_ 0 _ rfl;(with_reducible repeat (first|refine blk_drewN ?_ _|refine blk_drew ?_|refine blk_alloc ?_ _));exact BK259.out) hb);have n2_:=Aside0.mk (below_step (by repeat (first|(with_reducible first|exact HB.out|apply below_alloc|apply pw_below_drewN|apply below_drew1|refine below_set ?_ GE259.out)|exact HB.out)) hb);clear HO_5;clear BK259;clear HB;have HO_5:=n0_;have BK259:=n1_;have HB:=n2_;clear n0_ n1_ n2_;(try clear hb);(try clear hb2);(try clear hk);(try clear hi))|((with_reducible refine gate_builtin (b:=.append) (xs:=#[.tmp 18,.tmp 20]) rfl ?_);at_builtin;refine Kd.R_append (Kd.int .i64) (w0:=w) w.heap.size rfl (.tmp 18) (.tmp 20) 24 3 (.int .i64 0) 8 rfl Try.underlying24 info3 rfl (by decide) (by omega) u5 x5_1 x10_1 [.int .i64 x10_1] (fun _ => True) (fun _ => False) rfl rfl ?aP (fun _ hk => hk.elim) ?aF ?aO ?aB ?aS ?aL ?_;(case aP => exact rfl);(case aB => exact (by repeat (first|(with_reducible first|exact HB.out|apply below_alloc|apply pw_below_drewN|apply below_drew1|refine below_set ?_ GE259.out)|exact HB.out)));(case aF => exact (fun _ _ => trivial));(case aO => exact (by (with_reducible repeat (first|apply Kd.R_alloc|apply Kd.R_drewN|apply Kd.R_drew));exact HO_5.out));(case aS => exact (below_size (by repeat (first|(with_reducible first|exact HB.out|apply below_alloc|apply pw_below_drewN|apply below_drew1|refine below_set ?_ GE259.out)|exact HB.out))));(case aL => have:=LMc8.out;omega);intro v262 w12 ho hb hg hat;rw [← Ny261.out] at ho;have n0_:=Aside0.mk (blk_grown (g:=gb259) (o:=.cells #[.slice A258_0 ((rd_T102 l0 x10_1).f0).length c258_0,.int .i64 ((rd_T102 l0 x10_1).f1)] 102 (0,0)) (by (with_reducible repeat (first|refine blk_drewN ?_ _|refine blk_drew ?_|refine blk_alloc ?_ _));exact BK259.out) hg (Kd.R_ne HO_5.out BK259.out (by decide)));have n1_:=Aside0.mk (hb);have n2_:=Aside0.mk (ho);clear BK259;clear HB;clear HO_5;have BK259:=n0_;have HB:=n1_;have HO263:=n2_;clear n0_ n1_ n2_;clear ho hb hg hat))
        go_roundg k1
        case measure => have:=HK1.out;omega
        case rel => exact ⟨(y261),(wrap64 (x10_1 + 1)),(by first|rfl|(simp;done)|(simp [*];done)),H',⟨by have:=HK1.out;omega⟩,⟨by (with_reducible repeat (first|apply Kd.R_alloc|apply Kd.R_drewN|apply Kd.R_drew));exact HO263.out⟩,⟨by repeat (first|(with_reducible first|exact HB.out|apply below_alloc|apply pw_below_drewN|apply below_drew1|refine below_set ?_ GE259.out)|exact HB.out)⟩⟩
       ·
        rw [if_neg c8] at H
        exact absurd H (by simp)
      ·
       replace c7:=Bool.eq_false_iff.mpr c7
       subst c7;have H1 : (spec_clWho.l0 k1 l1 x5_1 l0 (l0.length : Int) (wrap64 (x10_1 + 1))) = some r:=by rw [if_neg (show ¬ (false = true) by decide)] at H;exact H
       clear H;have H:=H1;clear H1;have H':=Aside0.mk H;clear H;have p258 : 0 ≤ (x10_1 : Int):=of_decide_eq_true (by assumption)
       have q258 : x10_1 < (l0.length : Int):=of_decide_eq_true (by assumption)
       obtain ⟨ad258,A258_0,c258_0,e258,hx258_0,hx258_1,hl258_0,hi258_0⟩:=at_T102 HR0.out x10_1 p258 q258
       cases e258
       replace hx258_0:=(HB.out.cell (World.block_lt_of_cell? w _ hx258_0)).trans hx258_0
       replace hx258_1:=(HB.out.cell (World.block_lt_of_cell? w _ hx258_1)).trans hx258_1
       have HR258_0:=Aside0.mk hi258_0;have HC258_0:=Aside0.mk hl258_0;clear hi258_0 hl258_0;replace p258:=eq_true p258;replace q258:=eq_true q258;go_wp2_with (first|((with_reducible refine gate_dst (N:=7) rfl ?_);refine box_event ?hg (N:=7) ?hd (cs:=#[.slice none 0 0,.int .i64 0]) (t:=102) ?hr ?_;(case hd => rfl);(case hg => rfl);(case hr => first|(go_simp;done)|(go_simp;rfl));intro gb259 hg w13 hbox hb;have n0_:=Aside0.mk (Kd.R_below (by (with_reducible repeat (first|apply Kd.R_alloc|apply Kd.R_drewN|apply Kd.R_drew));exact HO_5.out) hb);have n1_:=Aside0.mk (below_step (by repeat (first|(with_reducible first|exact HB.out|apply below_alloc|apply pw_below_drewN|apply below_drew1)|exact HB.out)) hb);have n2_:=Aside0.mk (hbox);have n3_:=Aside0.mk ((by rw [hg];exact (below_size (by repeat (first|(with_reducible first|exact HB.out|apply below_alloc|apply pw_below_drewN|apply below_drew1)|exact HB.out))) : w.heap.size ≤ gb259));have n4_:=Aside0.mk ((by rw [hg];exact (below_size (by repeat (first|(with_reducible first|exact HB.out|apply below_alloc|apply pw_below_drewN|apply below_drew1)|exact HB.out))) : w.heap.size ≤ gb259));clear HO_5;clear HB;have HO_5:=n0_;have HB:=n1_;have BK259:=n2_;have GW259:=n3_;have GE259:=n4_;clear n0_ n1_ n2_ n3_ n4_;clear hb hbox hg;have hcz14_0 : w13.cell? ⟨gb259,0,none⟩ = some (.slice none 0 0):=(blk_cell BK259.out 0).trans rfl;have hcz14_1 : w13.cell? ⟨gb259,1,none⟩ = some (.int .i64 0):=(blk_cell BK259.out 1).trans rfl;have hfz14_0:=blk_frozen BK259.out 0;have hfz14_1:=blk_frozen BK259.out 1)|((with_reducible refine gate_callee (f:=154) rfl ?_);refine goesL_ (some 17) rfl rfl Try.func154 (by kernel_rfl) rfl #[.agg #[.slice A258_0 ((rd_T102 l0 x10_1).f0).length c258_0,.int .i64 ((rd_T102 l0 x10_1).f1)],.slice A1 l1.length c1] rfl (by (try simp only [List.map_toArray,List.map_cons,List.map_nil]);first|done|rfl|(simp only [List.length_drop,List.length_take];rfl)) ?_;(with_reducible refine (spec_inPlays.calls k1 _ _ ((rd_T102 l0 x10_1).f0) ((rd_T102 l0 x10_1).f1) _ _ l1 false _ ?side1 ?side2 ?side3 ?side4 A6.out).mono ?_);(case side1 => exact Kd.C_below HR258_0.out (by repeat (first|(with_reducible first|exact HB.out|apply below_alloc|apply pw_below_drewN|apply below_drew1|refine below_set ?_ GE259.out)|exact HB.out)));(case side2 => exact HC258_0.out);(case side3 => exact Kd.C_below HR1.out (by repeat (first|(with_reducible first|exact HB.out|apply below_alloc|apply pw_below_drewN|apply below_drew1|refine below_set ?_ GE259.out)|exact HB.out)));(case side4 => exact HC1.out);rintro e w15 ⟨rfl,hb⟩;refine ⟨_,rfl,?_⟩;have n0_:=Aside0.mk (Kd.R_below (by (with_reducible repeat (first|apply Kd.R_alloc|apply Kd.R_drewN|apply Kd.R_drew));exact (Kd.R_mono (Kd.R_far (p:=⟨gb259,1,none⟩) (Kd.R_far (p:=⟨gb259,0,none⟩) (Kd.R_types HO_5.out BK259.out (by decide)) (fun _ hk => hk.2) (.slice A258_0 ((rd_T102 l0 x10_1).f0).length c258_0)) (fun _ hk => hk.2) (.int .i64 ((rd_T102 l0 x10_1).f1))) (fun _ h_ => h_.1))) hb);have n1_:=Aside0.mk (blk_below (g:=gb259) (o:=.cells #[.slice A258_0 ((rd_T102 l0 x10_1).f0).length c258_0,.int .i64 ((rd_T102 l0 x10_1).f1)] 102 (0,0)) (by (with_reducible repeat (first|refine blk_drewN ?_ _|refine blk_drew ?_|refine blk_alloc ?_ _));refine blk_put (cs:=#[.slice A258_0 ((rd_T102 l0 x10_1).f0).length c258_0,.int .i64 0]) ?_ 1 _ rfl;(with_reducible repeat (first|refine blk_drewN ?_ _|refine blk_drew ?_|refine blk_alloc ?_ _));refine blk_put (cs:=#[.slice none 0 0,.int .i64 0]) ?_ 0 _ rfl;(with_reducible repeat (first|refine blk_drewN ?_ _|refine blk_drew ?_|refine blk_alloc ?_ _));exact BK259.out) hb);have n2_:=Aside0.mk (below_step (by repeat (first|(with_reducible first|exact HB.out|apply below_alloc|apply pw_below_drewN|apply below_drew1|refine below_set ?_ GE259.out)|exact HB.out)) hb);clear HO_5;clear BK259;clear HB;have HO_5:=n0_;have BK259:=n1_;have HB:=n2_;clear n0_ n1_ n2_;(try clear hb);(try clear hb2);(try clear hk);(try clear hi)))
       go_roundg k1
       case measure => have:=HK1.out;omega
       case rel => exact ⟨(x5_1),(wrap64 (x10_1 + 1)),(by first|rfl|(simp;done)|(simp [*];done)),H',⟨by have:=HK1.out;omega⟩,⟨by (with_reducible repeat (first|apply Kd.R_alloc|apply Kd.R_drewN|apply Kd.R_drew));exact HO_5.out⟩,⟨by repeat (first|(with_reducible first|exact HB.out|apply below_alloc|apply pw_below_drewN|apply below_drew1|refine below_set ?_ GE259.out)|exact HB.out)⟩⟩
     ·
      rw [if_neg c5] at H
      exact absurd H (by simp)
    ·
     rw [if_neg c4] at H
     exact absurd H (by simp)
   ·
    rw [if_neg c3] at H
    have c3b0 : decide (x10_1 < (l0.length : Int)) = false:=decide_eq_false c3
    clear c3;obtain rfl:=Option.some.inj H;go_wp2;go_ret;exact ⟨_,by first|rfl|(simp [errW_none,errW_some] <;> rfl)|(simp [*,errW_none,errW_some] <;> rfl),by (with_reducible repeat (first|apply Kd.R_alloc|apply Kd.R_drewN|apply Kd.R_drew));exact HO_5.out,by repeat (first|(with_reducible first|exact HB.out|apply below_alloc|apply pw_below_drewN|apply below_drew1)|exact HB.out)⟩

def spec_WhoPlays.f (k : Nat) (l0 : List (S102)) (l1 : List (S85)) : Option (List Int × Bool):=(spec_clAsked.f k l0 l1).bind fun t264 => (if t264 = true then ((spec_clWho.f k l0 l1).bind fun t265 => (some (t265,true))) else (some (([] : List Int),false)))
theorem spec_WhoPlays.mono : ∀ a0 a1 k,LeO (spec_WhoPlays.f k a0 a1) (spec_WhoPlays.f (k + 1) a0 a1):=by
 intro a0 a1 k
 unfold spec_WhoPlays.f
 repeat' first
   | (with_reducible exact spec_clAsked.mono _ _ _)
   | (with_reducible exact spec_clWho.mono _ _ _)
   | (with_reducible exact LeO.refl _)
   | (with_reducible exact LeO.none _)
   | (with_reducible refine LeO.ite ?_ ?_)
   | (with_reducible refine LeO.bind ?_ (fun _ => ?_))
   | exact LeO.none _
   | refine LeO.ite ?_ ?_
   | refine LeO.bind ?_ (fun _ => ?_)
set_option maxHeartbeats 8000000 in
set_option maxRecDepth 100000 in
theorem spec_WhoPlays.calls (k : Nat) (A0 : Option Addr) (c0 : Nat) (l0 : List (S102)) (A1 : Option Addr) (c1 : Nat) (l1 : List (S85)) (r1 : List Int) (r2 : Bool) (w : World) (hr0 : Kd.C k102 w A0 l0.length l0) (hc0 : l0.length ≤ c0) (hr1 : Kd.C k85 w A1 l1.length l1) (hc1 : l1.length ≤ c1) (h : spec_WhoPlays.f k l0 l1 = some (r1,r2)) :
  Calls Try.prog 57 #[.slice A0 l0.length c0,.slice A1 l1.length c1] w fun e w' => ∃ v0_ : Value,e = .returned (.tuple #[v0_,.bool r2]) ∧ Kd.R (Kd.int .i64) 3 w' w.heap.size (fun _ => True) v0_ r1 ∧ Below w.heap.size w w':=by
 have HR0:=Aside0.mk hr0
 have HC0:=Aside0.mk hc0
 clear hr0 hc0
 have HR1:=Aside0.mk hr1
 have HC1:=Aside0.mk hc1
 clear hr1 hc1
 have HB:=Aside0.mk (Below.refl w.heap.size w)
 have H : ((spec_clAsked.f k l0 l1).bind fun t264 => (if t264 = true then ((spec_clWho.f k l0 l1).bind fun t265 => (some (t265,true))) else (some (([] : List Int),false)))) = some (r1,r2):=h
 clear h
 replace H:=Option.bind_eq_some_iff.mp H
 obtain ⟨t264,A30,H⟩:=H
 replace H : (if t264 = true then ((spec_clWho.f k l0 l1).bind fun t265 => (some (t265,true))) else (some (([] : List Int),false))) = some (r1,r2):=H
 have A3:=Aside0.mk A30
 clear A30
 by_cases c4 : t264 = true
 ·
  subst c4;have H1 : ((spec_clWho.f k l0 l1).bind fun t265 => (some (t265,true))) = some (r1,r2):=by rw [if_pos rfl] at H;exact H
  clear H;have H:=H1;clear H1;replace H:=Option.bind_eq_some_iff.mp H;obtain ⟨t265,A50,H⟩:=H;replace H : (some (t265,true)) = some (r1,r2):=H;have A5:=Aside0.mk A50;clear A50;simp only [Option.some.injEq,Prod.mk.injEq] at H;obtain ⟨rfl,rfl⟩:=H;go_enter Try.func57,Try.ntmps57;go_wp2_with (first|((with_reducible refine gate_callee (f:=89) rfl ?_);refine goesL_ (some 8) rfl rfl Try.func89 (by kernel_rfl) rfl #[.slice A0 l0.length c0,.slice A1 l1.length c1] rfl (by (try simp only [List.map_toArray,List.map_cons,List.map_nil]);first|done|rfl|(simp only [List.length_drop,List.length_take];rfl)) ?_;(with_reducible refine (spec_clAsked.calls k _ _ l0 _ _ l1 true _ ?side1 ?side2 ?side3 ?side4 A3.out).mono ?_);(case side1 => repeat (first|exact HR0.out|(with_reducible refine Kd.C_alloc ?_ _)|(with_reducible refine Kd.C_drewN ?_ _)|(with_reducible refine Kd.C_drew ?_)));(case side2 => exact HC0.out);(case side3 => repeat (first|exact HR1.out|(with_reducible refine Kd.C_alloc ?_ _)|(with_reducible refine Kd.C_drewN ?_ _)|(with_reducible refine Kd.C_drew ?_)));(case side4 => exact HC1.out);rintro e w6 ⟨rfl,hb⟩;refine ⟨_,rfl,?_⟩;have n0_:=Aside0.mk (below_step (by repeat (first|(with_reducible first|exact HB.out|apply below_alloc|apply pw_below_drewN|apply below_drew1)|exact HB.out)) hb);clear HB;have HB:=n0_;clear n0_;(try clear hb);(try clear hb2);(try clear hk);(try clear hi))|((with_reducible refine gate_callee (f:=95) rfl ?_);refine goesL_ (some 12) rfl rfl Try.func95 (by kernel_rfl) rfl #[.slice A0 l0.length c0,.slice A1 l1.length c1] rfl (by (try simp only [List.map_toArray,List.map_cons,List.map_nil]);first|done|rfl|(simp only [List.length_drop,List.length_take];rfl)) ?_;(with_reducible refine (spec_clWho.calls k _ _ l0 _ _ l1 t265 _ ?side1 ?side2 ?side3 ?side4 A5.out).mono ?_);(case side1 => repeat (first|exact (Kd.C_below HR0.out HB.out)|(with_reducible refine Kd.C_alloc ?_ _)|(with_reducible refine Kd.C_drewN ?_ _)|(with_reducible refine Kd.C_drew ?_)));(case side2 => exact HC0.out);(case side3 => repeat (first|exact (Kd.C_below HR1.out HB.out)|(with_reducible refine Kd.C_alloc ?_ _)|(with_reducible refine Kd.C_drewN ?_ _)|(with_reducible refine Kd.C_drew ?_)));(case side4 => exact HC1.out);rintro e w7 ⟨v266,rfl,ho0,hb⟩;refine ⟨_,rfl,?_⟩;have n0_:=Aside0.mk (Kd.R_lower ho0 (below_size (by repeat (first|(with_reducible first|exact HB.out|apply below_alloc|apply pw_below_drewN|apply below_drew1)|exact HB.out))));have n1_:=Aside0.mk (below_step (by repeat (first|(with_reducible first|exact HB.out|apply below_alloc|apply pw_below_drewN|apply below_drew1)|exact HB.out)) hb);clear HB;have HO267:=n0_;have HB:=n1_;clear n0_ n1_;(try clear hb);(try clear hb2);(try clear hk);(try clear hi);(try clear ho0)))
  go_ret2
  exact ⟨_,by first|rfl|(simp [errW_none,errW_some] <;> rfl)|(simp [*,errW_none,errW_some] <;> rfl),by (with_reducible repeat (first|apply Kd.R_alloc|apply Kd.R_drewN|apply Kd.R_drew));exact HO267.out,by repeat (first|(with_reducible first|exact HB.out|apply below_alloc|apply pw_below_drewN|apply below_drew1)|exact HB.out)⟩
 ·
  replace c4:=Bool.eq_false_iff.mpr c4
  subst c4;have H1 : (some (([] : List Int),false)) = some (r1,r2):=by rw [if_neg (show ¬ (false = true) by decide)] at H;exact H
  clear H;have H:=H1;clear H1;simp only [Option.some.injEq,Prod.mk.injEq] at H;obtain ⟨rfl,rfl⟩:=H;go_enter Try.func57,Try.ntmps57;go_wp2_with (first|((with_reducible refine gate_callee (f:=89) rfl ?_);refine goesL_ (some 8) rfl rfl Try.func89 (by kernel_rfl) rfl #[.slice A0 l0.length c0,.slice A1 l1.length c1] rfl (by (try simp only [List.map_toArray,List.map_cons,List.map_nil]);first|done|rfl|(simp only [List.length_drop,List.length_take];rfl)) ?_;(with_reducible refine (spec_clAsked.calls k _ _ l0 _ _ l1 false _ ?side1 ?side2 ?side3 ?side4 A3.out).mono ?_);(case side1 => repeat (first|exact HR0.out|(with_reducible refine Kd.C_alloc ?_ _)|(with_reducible refine Kd.C_drewN ?_ _)|(with_reducible refine Kd.C_drew ?_)));(case side2 => exact HC0.out);(case side3 => repeat (first|exact HR1.out|(with_reducible refine Kd.C_alloc ?_ _)|(with_reducible refine Kd.C_drewN ?_ _)|(with_reducible refine Kd.C_drew ?_)));(case side4 => exact HC1.out);rintro e w8 ⟨rfl,hb⟩;refine ⟨_,rfl,?_⟩;have n0_:=Aside0.mk (below_step (by repeat (first|(with_reducible first|exact HB.out|apply below_alloc|apply pw_below_drewN|apply below_drew1)|exact HB.out)) hb);clear HB;have HB:=n0_;clear n0_;(try clear hb);(try clear hb2);(try clear hk);(try clear hi)))
  go_ret2
  exact ⟨_,by first|rfl|(simp [errW_none,errW_some] <;> rfl)|(simp [*,errW_none,errW_some] <;> rfl),by first|exact Kd.R_nil _ _ _ _ _|exact Kd.N_nil _ _ _ _ _|exact Kd.V_nil _ _ _ _ _|exact Kd.Q_nil _ _ _ _ _|exact Kd.S_nil _ _ _ _ _,by repeat (first|(with_reducible first|exact HB.out|apply below_alloc|apply pw_below_drewN|apply below_drew1)|exact HB.out)⟩

def impl_IsNote.f (a0_0 : Int) (a0_1 : Int) (a0_2 : Int) : Option (Bool):=if a0_0 ≥ 24 then (if a0_0 ≤ 96 then (if a0_1 ≥ 0 then (if a0_1 ≤ 999 then (if a0_2 ≥ 1 then (some (decide (a0_2 ≤ 99))) else (some false)) else (some false)) else (some false)) else (some false)) else (some false)
set_option maxHeartbeats 8000000 in
set_option maxRecDepth 100000 in
theorem impl_IsNote.calls (a0_0 : Int) (a0_1 : Int) (a0_2 : Int) (r : Bool) (w : World) (h : impl_IsNote.f a0_0 a0_1 a0_2 = some r) :
  Calls Try.prog 135 #[.agg #[.int .i64 a0_0,.int .i64 a0_1,.int .i64 a0_2]] w fun e w' => e = .returned (.bool r) ∧ Below w.heap.size w w':=by
 have hu85:=Try.underlying85
 have HB:=Aside0.mk (Below.refl w.heap.size w)
 have H : (if a0_0 ≥ 24 then (if a0_0 ≤ 96 then (if a0_1 ≥ 0 then (if a0_1 ≤ 999 then (if a0_2 ≥ 1 then (some (decide (a0_2 ≤ 99))) else (some false)) else (some false)) else (some false)) else (some false)) else (some false)) = some r:=h
 clear h
 by_cases c2 : a0_0 ≥ 24
 ·
  rw [if_pos c2] at H
  have c2b0 : decide (24 ≤ a0_0) = true:=decide_eq_true c2
  clear c2;by_cases c3 : a0_0 ≤ 96
  ·
   rw [if_pos c3] at H
   have c3b0 : decide (a0_0 ≤ 96) = true:=decide_eq_true c3
   clear c3;by_cases c4 : a0_1 ≥ 0
   ·
    rw [if_pos c4] at H
    have c4b0 : decide (0 ≤ a0_1) = true:=decide_eq_true c4
    clear c4;by_cases c5 : a0_1 ≤ 999
    ·
     rw [if_pos c5] at H
     have c5b0 : decide (a0_1 ≤ 999) = true:=decide_eq_true c5
     clear c5;by_cases c6 : a0_2 ≥ 1
     ·
      rw [if_pos c6] at H
      have c6b0 : decide (1 ≤ a0_2) = true:=decide_eq_true c6
      clear c6;obtain rfl:=Option.some.inj H;go_enter Try.func135,Try.ntmps135;go_wp2_with (first|((with_reducible refine gate_dst (N:=1) rfl ?_);refine box_event ?hg (N:=1) ?hd (cs:=#[.int .i64 a0_0,.int .i64 a0_1,.int .i64 a0_2]) (t:=85) ?hr ?_;(case hd => rfl);(case hg => rfl);(case hr => first|(go_simp;done)|(go_simp;rfl));intro gb268 hg w7 hbox hb;have n0_:=Aside0.mk (below_step (by repeat (first|(with_reducible first|exact HB.out|apply below_alloc|apply pw_below_drewN|apply below_drew1)|exact HB.out)) hb);have n1_:=Aside0.mk (hbox);have n2_:=Aside0.mk ((by rw [hg];exact (below_size (by repeat (first|(with_reducible first|exact HB.out|apply below_alloc|apply pw_below_drewN|apply below_drew1)|exact HB.out))) : w.heap.size ≤ gb268));have n3_:=Aside0.mk ((by rw [hg];exact (below_size (by repeat (first|(with_reducible first|exact HB.out|apply below_alloc|apply pw_below_drewN|apply below_drew1)|exact HB.out))) : w.heap.size ≤ gb268));clear HB;have HB:=n0_;have BK268:=n1_;have GW268:=n2_;have GE268:=n3_;clear n0_ n1_ n2_ n3_;clear hb hbox hg;have hcz8_0 : w7.cell? ⟨gb268,0,none⟩ = some (.int .i64 a0_0):=(blk_cell BK268.out 0).trans rfl;have hcz8_1 : w7.cell? ⟨gb268,1,none⟩ = some (.int .i64 a0_1):=(blk_cell BK268.out 1).trans rfl;have hcz8_2 : w7.cell? ⟨gb268,2,none⟩ = some (.int .i64 a0_2):=(blk_cell BK268.out 2).trans rfl;have hfz8_0:=blk_frozen BK268.out 0;have hfz8_1:=blk_frozen BK268.out 1;have hfz8_2:=blk_frozen BK268.out 2))
      go_ret
      exact ⟨by first|rfl|(simp [errW_none,errW_some] <;> rfl)|(simp [*,errW_none,errW_some] <;> rfl),by repeat (first|(with_reducible first|exact HB.out|apply below_alloc|apply pw_below_drewN|apply below_drew1|refine below_set ?_ GE268.out)|exact HB.out)⟩
     ·
      rw [if_neg c6] at H
      have c6b0 : decide (1 ≤ a0_2) = false:=decide_eq_false c6
      clear c6;obtain rfl:=Option.some.inj H;go_enter Try.func135,Try.ntmps135;go_wp2_with (first|((with_reducible refine gate_dst (N:=1) rfl ?_);refine box_event ?hg (N:=1) ?hd (cs:=#[.int .i64 a0_0,.int .i64 a0_1,.int .i64 a0_2]) (t:=85) ?hr ?_;(case hd => rfl);(case hg => rfl);(case hr => first|(go_simp;done)|(go_simp;rfl));intro gb268 hg w9 hbox hb;have n0_:=Aside0.mk (below_step (by repeat (first|(with_reducible first|exact HB.out|apply below_alloc|apply pw_below_drewN|apply below_drew1)|exact HB.out)) hb);have n1_:=Aside0.mk (hbox);have n2_:=Aside0.mk ((by rw [hg];exact (below_size (by repeat (first|(with_reducible first|exact HB.out|apply below_alloc|apply pw_below_drewN|apply below_drew1)|exact HB.out))) : w.heap.size ≤ gb268));have n3_:=Aside0.mk ((by rw [hg];exact (below_size (by repeat (first|(with_reducible first|exact HB.out|apply below_alloc|apply pw_below_drewN|apply below_drew1)|exact HB.out))) : w.heap.size ≤ gb268));clear HB;have HB:=n0_;have BK268:=n1_;have GW268:=n2_;have GE268:=n3_;clear n0_ n1_ n2_ n3_;clear hb hbox hg;have hcz10_0 : w9.cell? ⟨gb268,0,none⟩ = some (.int .i64 a0_0):=(blk_cell BK268.out 0).trans rfl;have hcz10_1 : w9.cell? ⟨gb268,1,none⟩ = some (.int .i64 a0_1):=(blk_cell BK268.out 1).trans rfl;have hcz10_2 : w9.cell? ⟨gb268,2,none⟩ = some (.int .i64 a0_2):=(blk_cell BK268.out 2).trans rfl;have hfz10_0:=blk_frozen BK268.out 0;have hfz10_1:=blk_frozen BK268.out 1;have hfz10_2:=blk_frozen BK268.out 2))
      go_ret
      exact ⟨by first|rfl|(simp [errW_none,errW_some] <;> rfl)|(simp [*,errW_none,errW_some] <;> rfl),by repeat (first|(with_reducible first|exact HB.out|apply below_alloc|apply pw_below_drewN|apply below_drew1|refine below_set ?_ GE268.out)|exact HB.out)⟩
    ·
     rw [if_neg c5] at H
     have c5b0 : decide (a0_1 ≤ 999) = false:=decide_eq_false c5
     clear c5;obtain rfl:=Option.some.inj H;go_enter Try.func135,Try.ntmps135;go_wp2_with (first|((with_reducible refine gate_dst (N:=1) rfl ?_);refine box_event ?hg (N:=1) ?hd (cs:=#[.int .i64 a0_0,.int .i64 a0_1,.int .i64 a0_2]) (t:=85) ?hr ?_;(case hd => rfl);(case hg => rfl);(case hr => first|(go_simp;done)|(go_simp;rfl));intro gb268 hg w11 hbox hb;have n0_:=Aside0.mk (below_step (by repeat (first|(with_reducible first|exact HB.out|apply below_alloc|apply pw_below_drewN|apply below_drew1)|exact HB.out)) hb);have n1_:=Aside0.mk (hbox);have n2_:=Aside0.mk ((by rw [hg];exact (below_size (by repeat (first|(with_reducible first|exact HB.out|apply below_alloc|apply pw_below_drewN|apply below_drew1)|exact HB.out))) : w.heap.size ≤ gb268));have n3_:=Aside0.mk ((by rw [hg];exact (below_size (by repeat (first|(with_reducible first|exact HB.out|apply below_alloc|apply pw_below_drewN|apply below_drew1)|exact HB.out))) : w.heap.size ≤ gb268));clear HB;have HB:=n0_;have BK268:=n1_;have GW268:=n2_;have GE268:=n3_;clear n0_ n1_ n2_ n3_;clear hb hbox hg;have hcz12_0 : w11.cell? ⟨gb268,0,none⟩ = some (.int .i64 a0_0):=(blk_cell BK268.out 0).trans rfl;have hcz12_1 : w11.cell? ⟨gb268,1,none⟩ = some (.int .i64 a0_1):=(blk_cell BK268.out 1).trans rfl;have hcz12_2 : w11.cell? ⟨gb268,2,none⟩ = some (.int .i64 a0_2):=(blk_cell BK268.out 2).trans rfl;have hfz12_0:=blk_frozen BK268.out 0;have hfz12_1:=blk_frozen BK268.out 1;have hfz12_2:=blk_frozen BK268.out 2))
     go_ret
     exact ⟨by first|rfl|(simp [errW_none,errW_some] <;> rfl)|(simp [*,errW_none,errW_some] <;> rfl),by repeat (first|(with_reducible first|exact HB.out|apply below_alloc|apply pw_below_drewN|apply below_drew1|refine below_set ?_ GE268.out)|exact HB.out)⟩
   ·
    rw [if_neg c4] at H
    have c4b0 : decide (0 ≤ a0_1) = false:=decide_eq_false c4
    clear c4;obtain rfl:=Option.some.inj H;go_enter Try.func135,Try.ntmps135;go_wp2_with (first|((with_reducible refine gate_dst (N:=1) rfl ?_);refine box_event ?hg (N:=1) ?hd (cs:=#[.int .i64 a0_0,.int .i64 a0_1,.int .i64 a0_2]) (t:=85) ?hr ?_;(case hd => rfl);(case hg => rfl);(case hr => first|(go_simp;done)|(go_simp;rfl));intro gb268 hg w13 hbox hb;have n0_:=Aside0.mk (below_step (by repeat (first|(with_reducible first|exact HB.out|apply below_alloc|apply pw_below_drewN|apply below_drew1)|exact HB.out)) hb);have n1_:=Aside0.mk (hbox);have n2_:=Aside0.mk ((by rw [hg];exact (below_size (by repeat (first|(with_reducible first|exact HB.out|apply below_alloc|apply pw_below_drewN|apply below_drew1)|exact HB.out))) : w.heap.size ≤ gb268));have n3_:=Aside0.mk ((by rw [hg];exact (below_size (by repeat (first|(with_reducible first|exact HB.out|apply below_alloc|apply pw_below_drewN|apply below_drew1)|exact HB.out))) : w.heap.size ≤ gb268));clear HB;have HB:=n0_;have BK268:=n1_;have GW268:=n2_;have GE268:=n3_;clear n0_ n1_ n2_ n3_;clear hb hbox hg;have hcz14_0 : w13.cell? ⟨gb268,0,none⟩ = some (.int .i64 a0_0):=(blk_cell BK268.out 0).trans rfl;have hcz14_1 : w13.cell? ⟨gb268,1,none⟩ = some (.int .i64 a0_1):=(blk_cell BK268.out 1).trans rfl;have hcz14_2 : w13.cell? ⟨gb268,2,none⟩ = some (.int .i64 a0_2):=(blk_cell BK268.out 2).trans rfl;have hfz14_0:=blk_frozen BK268.out 0;have hfz14_1:=blk_frozen BK268.out 1;have hfz14_2:=blk_frozen BK268.out 2))
    go_ret
    exact ⟨by first|rfl|(simp [errW_none,errW_some] <;> rfl)|(simp [*,errW_none,errW_some] <;> rfl),by repeat (first|(with_reducible first|exact HB.out|apply below_alloc|apply pw_below_drewN|apply below_drew1|refine below_set ?_ GE268.out)|exact HB.out)⟩
  ·
   rw [if_neg c3] at H
   have c3b0 : decide (a0_0 ≤ 96) = false:=decide_eq_false c3
   clear c3;obtain rfl:=Option.some.inj H;go_enter Try.func135,Try.ntmps135;go_wp2_with (first|((with_reducible refine gate_dst (N:=1) rfl ?_);refine box_event ?hg (N:=1) ?hd (cs:=#[.int .i64 a0_0,.int .i64 a0_1,.int .i64 a0_2]) (t:=85) ?hr ?_;(case hd => rfl);(case hg => rfl);(case hr => first|(go_simp;done)|(go_simp;rfl));intro gb268 hg w15 hbox hb;have n0_:=Aside0.mk (below_step (by repeat (first|(with_reducible first|exact HB.out|apply below_alloc|apply pw_below_drewN|apply below_drew1)|exact HB.out)) hb);have n1_:=Aside0.mk (hbox);have n2_:=Aside0.mk ((by rw [hg];exact (below_size (by repeat (first|(with_reducible first|exact HB.out|apply below_alloc|apply pw_below_drewN|apply below_drew1)|exact HB.out))) : w.heap.size ≤ gb268));have n3_:=Aside0.mk ((by rw [hg];exact (below_size (by repeat (first|(with_reducible first|exact HB.out|apply below_alloc|apply pw_below_drewN|apply below_drew1)|exact HB.out))) : w.heap.size ≤ gb268));clear HB;have HB:=n0_;have BK268:=n1_;have GW268:=n2_;have GE268:=n3_;clear n0_ n1_ n2_ n3_;clear hb hbox hg;have hcz16_0 : w15.cell? ⟨gb268,0,none⟩ = some (.int .i64 a0_0):=(blk_cell BK268.out 0).trans rfl;have hcz16_1 : w15.cell? ⟨gb268,1,none⟩ = some (.int .i64 a0_1):=(blk_cell BK268.out 1).trans rfl;have hcz16_2 : w15.cell? ⟨gb268,2,none⟩ = some (.int .i64 a0_2):=(blk_cell BK268.out 2).trans rfl;have hfz16_0:=blk_frozen BK268.out 0;have hfz16_1:=blk_frozen BK268.out 1;have hfz16_2:=blk_frozen BK268.out 2))
   go_ret
   exact ⟨by first|rfl|(simp [errW_none,errW_some] <;> rfl)|(simp [*,errW_none,errW_some] <;> rfl),by repeat (first|(with_reducible first|exact HB.out|apply below_alloc|apply pw_below_drewN|apply below_drew1|refine below_set ?_ GE268.out)|exact HB.out)⟩
 ·
  rw [if_neg c2] at H
  have c2b0 : decide (24 ≤ a0_0) = false:=decide_eq_false c2
  clear c2;obtain rfl:=Option.some.inj H;go_enter Try.func135,Try.ntmps135;go_wp2_with (first|((with_reducible refine gate_dst (N:=1) rfl ?_);refine box_event ?hg (N:=1) ?hd (cs:=#[.int .i64 a0_0,.int .i64 a0_1,.int .i64 a0_2]) (t:=85) ?hr ?_;(case hd => rfl);(case hg => rfl);(case hr => first|(go_simp;done)|(go_simp;rfl));intro gb268 hg w17 hbox hb;have n0_:=Aside0.mk (below_step (by repeat (first|(with_reducible first|exact HB.out|apply below_alloc|apply pw_below_drewN|apply below_drew1)|exact HB.out)) hb);have n1_:=Aside0.mk (hbox);have n2_:=Aside0.mk ((by rw [hg];exact (below_size (by repeat (first|(with_reducible first|exact HB.out|apply below_alloc|apply pw_below_drewN|apply below_drew1)|exact HB.out))) : w.heap.size ≤ gb268));have n3_:=Aside0.mk ((by rw [hg];exact (below_size (by repeat (first|(with_reducible first|exact HB.out|apply below_alloc|apply pw_below_drewN|apply below_drew1)|exact HB.out))) : w.heap.size ≤ gb268));clear HB;have HB:=n0_;have BK268:=n1_;have GW268:=n2_;have GE268:=n3_;clear n0_ n1_ n2_ n3_;clear hb hbox hg;have hcz18_0 : w17.cell? ⟨gb268,0,none⟩ = some (.int .i64 a0_0):=(blk_cell BK268.out 0).trans rfl;have hcz18_1 : w17.cell? ⟨gb268,1,none⟩ = some (.int .i64 a0_1):=(blk_cell BK268.out 1).trans rfl;have hcz18_2 : w17.cell? ⟨gb268,2,none⟩ = some (.int .i64 a0_2):=(blk_cell BK268.out 2).trans rfl;have hfz18_0:=blk_frozen BK268.out 0;have hfz18_1:=blk_frozen BK268.out 1;have hfz18_2:=blk_frozen BK268.out 2))
  go_ret
  exact ⟨by first|rfl|(simp [errW_none,errW_some] <;> rfl)|(simp [*,errW_none,errW_some] <;> rfl),by repeat (first|(with_reducible first|exact HB.out|apply below_alloc|apply pw_below_drewN|apply below_drew1|refine below_set ?_ GE268.out)|exact HB.out)⟩

def impl_noteLess.f (a0_0 : Int) (a0_1 : Int) (a0_2 : Int) (a1_0 : Int) (a1_1 : Int) (a1_2 : Int) : Option (Bool):=if a0_1 = a1_1 then (some (decide (a0_0 < a1_0))) else (some (decide (a0_1 < a1_1)))
set_option maxHeartbeats 8000000 in
set_option maxRecDepth 100000 in
theorem impl_noteLess.calls (a0_0 : Int) (a0_1 : Int) (a0_2 : Int) (a1_0 : Int) (a1_1 : Int) (a1_2 : Int) (r : Bool) (w : World) (h : impl_noteLess.f a0_0 a0_1 a0_2 a1_0 a1_1 a1_2 = some r) :
  Calls Try.prog 136 #[.agg #[.int .i64 a0_0,.int .i64 a0_1,.int .i64 a0_2],.agg #[.int .i64 a1_0,.int .i64 a1_1,.int .i64 a1_2]] w fun e w' => e = .returned (.bool r) ∧ Below w.heap.size w w':=by
 have hu85:=Try.underlying85
 have HB:=Aside0.mk (Below.refl w.heap.size w)
 have H : (if a0_1 = a1_1 then (some (decide (a0_0 < a1_0))) else (some (decide (a0_1 < a1_1)))) = some r:=h
 clear h
 by_cases c3 : a0_1 = a1_1
 ·
  rw [if_pos c3] at H
  have c3b0 : (a0_1 == a1_1) = true:=beq_iff_eq.mpr c3
  have c3b1 : (a0_1 != a1_1) = false:=bne_eq_false_iff_eq.mpr c3
  clear c3;obtain rfl:=Option.some.inj H;go_enter Try.func136,Try.ntmps136;go_wp2_with (first|((with_reducible refine gate_dst (N:=2) rfl ?_);refine box_event ?hg (N:=2) ?hd (cs:=#[.int .i64 a0_0,.int .i64 a0_1,.int .i64 a0_2]) (t:=85) ?hr ?_;(case hd => rfl);(case hg => rfl);(case hr => first|(go_simp;done)|(go_simp;rfl));intro gb269 hg w4 hbox hb;have n0_:=Aside0.mk (below_step (by repeat (first|(with_reducible first|exact HB.out|apply below_alloc|apply pw_below_drewN|apply below_drew1)|exact HB.out)) hb);have n1_:=Aside0.mk (hbox);have n2_:=Aside0.mk ((by rw [hg];exact (below_size (by repeat (first|(with_reducible first|exact HB.out|apply below_alloc|apply pw_below_drewN|apply below_drew1)|exact HB.out))) : w.heap.size ≤ gb269));have n3_:=Aside0.mk ((by rw [hg];exact (below_size (by repeat (first|(with_reducible first|exact HB.out|apply below_alloc|apply pw_below_drewN|apply below_drew1)|exact HB.out))) : w.heap.size ≤ gb269));clear HB;have HB:=n0_;have BK269:=n1_;have GW269:=n2_;have GE269:=n3_;clear n0_ n1_ n2_ n3_;clear hb hbox hg)|((with_reducible refine gate_dst (N:=3) rfl ?_);refine box_event ?hg (N:=3) ?hd (cs:=#[.int .i64 a1_0,.int .i64 a1_1,.int .i64 a1_2]) (t:=85) ?hr ?_;(case hd => rfl);(case hg => rfl);(case hr => first|(go_simp;done)|(go_simp;rfl));intro gb270 hg w5 hbox hb;have n0_:=Aside0.mk (blk_below (g:=gb269) (o:=.cells #[.int .i64 a0_0,.int .i64 a0_1,.int .i64 a0_2] 85 (0,0)) (by (with_reducible repeat (first|refine blk_drewN ?_ _|refine blk_drew ?_|refine blk_alloc ?_ _));exact BK269.out) hb);have n1_:=Aside0.mk (below_step (by repeat (first|(with_reducible first|exact HB.out|apply below_alloc|apply pw_below_drewN|apply below_drew1|refine below_set ?_ GE269.out)|exact HB.out)) hb);have n2_:=Aside0.mk (hbox);have n3_:=Aside0.mk ((by rw [hg];exact (below_size (by repeat (first|(with_reducible first|exact HB.out|apply below_alloc|apply pw_below_drewN|apply below_drew1|refine below_set ?_ GE269.out)|exact HB.out))) : w.heap.size ≤ gb270));have n4_:=Aside0.mk ((by rw [hg];exact (below_size (by repeat (first|(with_reducible first|exact HB.out|apply below_alloc|apply pw_below_drewN|apply below_drew1|refine below_set ?_ GE269.out)|exact HB.out))) : w.heap.size ≤ gb270));have n5_:=Aside0.mk ((by rw [hg];exact Nat.ne_of_lt (blk_lt (g:=gb269) (o:=.cells #[.int .i64 a0_0,.int .i64 a0_1,.int .i64 a0_2] 85 (0,0)) (by (with_reducible repeat (first|refine blk_drewN ?_ _|refine blk_drew ?_|refine blk_alloc ?_ _));exact BK269.out)) : gb269 ≠ gb270));have n6_:=Aside0.mk ((by rw [hg];exact Nat.ne_of_gt (blk_lt (g:=gb269) (o:=.cells #[.int .i64 a0_0,.int .i64 a0_1,.int .i64 a0_2] 85 (0,0)) (by (with_reducible repeat (first|refine blk_drewN ?_ _|refine blk_drew ?_|refine blk_alloc ?_ _));exact BK269.out)) : gb270 ≠ gb269));clear BK269;clear HB;have BK269:=n0_;have HB:=n1_;have BK270:=n2_;have GW270:=n3_;have GE270:=n4_;have NB269_270:=n5_;have NB270_269:=n6_;clear n0_ n1_ n2_ n3_ n4_ n5_ n6_;clear hb hbox hg;have hnb6:=NB269_270.out;have hnc6:=NB270_269.out;have hcz7_0 : w5.cell? ⟨gb269,0,none⟩ = some (.int .i64 a0_0):=(blk_cell BK269.out 0).trans rfl;have hcz7_1 : w5.cell? ⟨gb269,1,none⟩ = some (.int .i64 a0_1):=(blk_cell BK269.out 1).trans rfl;have hcz7_2 : w5.cell? ⟨gb269,2,none⟩ = some (.int .i64 a0_2):=(blk_cell BK269.out 2).trans rfl;have hfz7_0:=blk_frozen BK269.out 0;have hfz7_1:=blk_frozen BK269.out 1;have hfz7_2:=blk_frozen BK269.out 2;have hcz8_0 : w5.cell? ⟨gb270,0,none⟩ = some (.int .i64 a1_0):=(blk_cell BK270.out 0).trans rfl;have hcz8_1 : w5.cell? ⟨gb270,1,none⟩ = some (.int .i64 a1_1):=(blk_cell BK270.out 1).trans rfl;have hcz8_2 : w5.cell? ⟨gb270,2,none⟩ = some (.int .i64 a1_2):=(blk_cell BK270.out 2).trans rfl;have hfz8_0:=blk_frozen BK270.out 0;have hfz8_1:=blk_frozen BK270.out 1;have hfz8_2:=blk_frozen BK270.out 2))
  go_ret
  exact ⟨by first|rfl|(simp [errW_none,errW_some] <;> rfl)|(simp [*,errW_none,errW_some] <;> rfl),by repeat (first|(with_reducible first|exact HB.out|apply below_alloc|apply pw_below_drewN|apply below_drew1|refine below_set ?_ GE269.out|refine below_set ?_ GE270.out)|exact HB.out)⟩
 ·
  rw [if_neg c3] at H
  have c3b0 : (a0_1 == a1_1) = false:=beq_eq_false_iff_ne.mpr c3
  have c3b1 : (a0_1 != a1_1) = true:=bne_iff_ne.mpr c3
  obtain rfl:=Option.some.inj H
  go_enter Try.func136,Try.ntmps136
  go_wp2_with (first|((with_reducible refine gate_dst (N:=2) rfl ?_);refine box_event ?hg (N:=2) ?hd (cs:=#[.int .i64 a0_0,.int .i64 a0_1,.int .i64 a0_2]) (t:=85) ?hr ?_;(case hd => rfl);(case hg => rfl);(case hr => first|(go_simp;done)|(go_simp;rfl));intro gb269 hg w9 hbox hb;have n0_:=Aside0.mk (below_step (by repeat (first|(with_reducible first|exact HB.out|apply below_alloc|apply pw_below_drewN|apply below_drew1)|exact HB.out)) hb);have n1_:=Aside0.mk (hbox);have n2_:=Aside0.mk ((by rw [hg];exact (below_size (by repeat (first|(with_reducible first|exact HB.out|apply below_alloc|apply pw_below_drewN|apply below_drew1)|exact HB.out))) : w.heap.size ≤ gb269));have n3_:=Aside0.mk ((by rw [hg];exact (below_size (by repeat (first|(with_reducible first|exact HB.out|apply below_alloc|apply pw_below_drewN|apply below_drew1)|exact HB.out))) : w.heap.size ≤ gb269));clear HB;have HB:=n0_;have BK269:=n1_;have GW269:=n2_;have GE269:=n3_;clear n0_ n1_ n2_ n3_;clear hb hbox hg)|((with_reducible refine gate_dst (N:=3) rfl ?_);refine box_event ?hg (N:=3) ?hd (cs:=#[.int .i64 a1_0,.int .i64 a1_1,.int .i64 a1_2]) (t:=85) ?hr ?_;(case hd => rfl);(case hg => rfl);(case hr => first|(go_simp;done)|(go_simp;rfl));intro gb270 hg w10 hbox hb;have n0_:=Aside0.mk (blk_below (g:=gb269) (o:=.cells #[.int .i64 a0_0,.int .i64 a0_1,.int .i64 a0_2] 85 (0,0)) (by (with_reducible repeat (first|refine blk_drewN ?_ _|refine blk_drew ?_|refine blk_alloc ?_ _));exact BK269.out) hb);have n1_:=Aside0.mk (below_step (by repeat (first|(with_reducible first|exact HB.out|apply below_alloc|apply pw_below_drewN|apply below_drew1|refine below_set ?_ GE269.out)|exact HB.out)) hb);have n2_:=Aside0.mk (hbox);have n3_:=Aside0.mk ((by rw [hg];exact (below_size (by repeat (first|(with_reducible first|exact HB.out|apply below_alloc|apply pw_below_drewN|apply below_drew1|refine below_set ?_ GE269.out)|exact HB.out))) : w.heap.size ≤ gb270));have n4_:=Aside0.mk ((by rw [hg];exact (below_size (by repeat (first|(with_reducible first|exact HB.out|apply below_alloc|apply pw_below_drewN|apply below_drew1|refine below_set ?_ GE269.out)|exact HB.out))) : w.heap.size ≤ gb270));have n5_:=Aside0.mk ((by rw [hg];exact Nat.ne_of_lt (blk_lt (g:=gb269) (o:=.cells #[.int .i64 a0_0,.int .i64 a0_1,.int .i64 a0_2] 85 (0,0)) (by (with_reducible repeat (first|refine blk_drewN ?_ _|refine blk_drew ?_|refine blk_alloc ?_ _));exact BK269.out)) : gb269 ≠ gb270));have n6_:=Aside0.mk ((by rw [hg];exact Nat.ne_of_gt (blk_lt (g:=gb269) (o:=.cells #[.int .i64 a0_0,.int .i64 a0_1,.int .i64 a0_2] 85 (0,0)) (by (with_reducible repeat (first|refine blk_drewN ?_ _|refine blk_drew ?_|refine blk_alloc ?_ _));exact BK269.out)) : gb270 ≠ gb269));clear BK269;clear HB;have BK269:=n0_;have HB:=n1_;have BK270:=n2_;have GW270:=n3_;have GE270:=n4_;have NB269_270:=n5_;have NB270_269:=n6_;clear n0_ n1_ n2_ n3_ n4_ n5_ n6_;clear hb hbox hg;have hnb11:=NB269_270.out;have hnc11:=NB270_269.out;have hcz12_0 : w10.cell? ⟨gb269,0,none⟩ = some (.int .i64 a0_0):=(blk_cell BK269.out 0).trans rfl;have hcz12_1 : w10.cell? ⟨gb269,1,none⟩ = some (.int .i64 a0_1):=(blk_cell BK269.out 1).trans rfl;have hcz12_2 : w10.cell? ⟨gb269,2,none⟩ = some (.int .i64 a0_2):=(blk_cell BK269.out 2).trans rfl;have hfz12_0:=blk_frozen BK269.out 0;have hfz12_1:=blk_frozen BK269.out 1;have hfz12_2:=blk_frozen BK269.out 2;have hcz13_0 : w10.cell? ⟨gb270,0,none⟩ = some (.int .i64 a1_0):=(blk_cell BK270.out 0).trans rfl;have hcz13_1 : w10.cell? ⟨gb270,1,none⟩ = some (.int .i64 a1_1):=(blk_cell BK270.out 1).trans rfl;have hcz13_2 : w10.cell? ⟨gb270,2,none⟩ = some (.int .i64 a1_2):=(blk_cell BK270.out 2).trans rfl;have hfz13_0:=blk_frozen BK270.out 0;have hfz13_1:=blk_frozen BK270.out 1;have hfz13_2:=blk_frozen BK270.out 2))
  go_ret
  exact ⟨by first|rfl|(simp [errW_none,errW_some] <;> rfl)|(simp [*,errW_none,errW_some] <;> rfl),by repeat (first|(with_reducible first|exact HB.out|apply below_alloc|apply pw_below_drewN|apply below_drew1|refine below_set ?_ GE269.out|refine below_set ?_ GE270.out)|exact HB.out)⟩

def impl_noteEnd.f (a0_0 : Int) (a0_1 : Int) (a0_2 : Int) : Option (Int):=some (wrap64 (a0_1 + a0_2))
set_option maxHeartbeats 8000000 in
set_option maxRecDepth 100000 in
theorem impl_noteEnd.calls (a0_0 : Int) (a0_1 : Int) (a0_2 : Int) (r : Int) (w : World) (h : impl_noteEnd.f a0_0 a0_1 a0_2 = some r) :
  Calls Try.prog 137 #[.agg #[.int .i64 a0_0,.int .i64 a0_1,.int .i64 a0_2]] w fun e w' => e = .returned (.int .i64 r) ∧ Below w.heap.size w w':=by
 have hu85:=Try.underlying85
 have HB:=Aside0.mk (Below.refl w.heap.size w)
 have H : (some (wrap64 (a0_1 + a0_2))) = some r:=h
 clear h
 obtain rfl:=Option.some.inj H
 go_enter Try.func137,Try.ntmps137
 go_wp2_with (first|((with_reducible refine gate_dst (N:=1) rfl ?_);refine box_event ?hg (N:=1) ?hd (cs:=#[.int .i64 a0_0,.int .i64 a0_1,.int .i64 a0_2]) (t:=85) ?hr ?_;(case hd => rfl);(case hg => rfl);(case hr => first|(go_simp;done)|(go_simp;rfl));intro gb271 hg w2 hbox hb;have n0_:=Aside0.mk (below_step (by repeat (first|(with_reducible first|exact HB.out|apply below_alloc|apply pw_below_drewN|apply below_drew1)|exact HB.out)) hb);have n1_:=Aside0.mk (hbox);have n2_:=Aside0.mk ((by rw [hg];exact (below_size (by repeat (first|(with_reducible first|exact HB.out|apply below_alloc|apply pw_below_drewN|apply below_drew1)|exact HB.out))) : w.heap.size ≤ gb271));have n3_:=Aside0.mk ((by rw [hg];exact (below_size (by repeat (first|(with_reducible first|exact HB.out|apply below_alloc|apply pw_below_drewN|apply below_drew1)|exact HB.out))) : w.heap.size ≤ gb271));clear HB;have HB:=n0_;have BK271:=n1_;have GW271:=n2_;have GE271:=n3_;clear n0_ n1_ n2_ n3_;clear hb hbox hg;have hcz3_0 : w2.cell? ⟨gb271,0,none⟩ = some (.int .i64 a0_0):=(blk_cell BK271.out 0).trans rfl;have hcz3_1 : w2.cell? ⟨gb271,1,none⟩ = some (.int .i64 a0_1):=(blk_cell BK271.out 1).trans rfl;have hcz3_2 : w2.cell? ⟨gb271,2,none⟩ = some (.int .i64 a0_2):=(blk_cell BK271.out 2).trans rfl;have hfz3_0:=blk_frozen BK271.out 0;have hfz3_1:=blk_frozen BK271.out 1;have hfz3_2:=blk_frozen BK271.out 2))
 go_ret
 exact ⟨by first|rfl|(simp [errW_none,errW_some] <;> rfl)|(simp [*,errW_none,errW_some] <;> rfl),by repeat (first|(with_reducible first|exact HB.out|apply below_alloc|apply pw_below_drewN|apply below_drew1|refine below_set ?_ GE271.out)|exact HB.out)⟩

end Go.Proofs.Ythkofipgondalaa.QFnExactWhoPlays
