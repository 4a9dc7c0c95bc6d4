-- WRITTEN BY qprint.py OF THIS SESSION: the kit's print with own contracts and turned arms; not the print's own text.
import Derived.Test.YthkofipgondalaaQFnExactWhoPlaysx0
import Derived.Test.YthkofipgondalaaQFnExactWhoPlaysx3
import Derived.Test.YthkofipgondalaaQFnExactWhoPlaysx4
namespace Go.Proofs.Ythkofipgondalaa.QFnExactWhoPlays
open Go.RowKit Go.Proofs.YthkofipgondalaaW.PrintWords Go.Proofs.YthkofipgondalaaW.PrintLast Go.Proofs.YthkofipgondalaaW.PrintMore
attribute [local go_sem] max2_int min2_int max_two min_two max_three min_three max_four min_four   -- for this text's walks alone
set_option linter.unusedVariables false
set_option linter.unusedSimpArgs false

def spec_l1Rising.l0 : Nat → List Int → Int → Int → List Int → Int → Int → Option (Bool)
 | 0,_,_,_,_,_,_ => none
 | k + 1,x0,x1,x2,x9,x10,x11 => if x11 < x10 then (if 0 ≤ x11 then (if x11 < (x9.length : Int) then ((spec_l1In.f (rd x9 x11) x1 x2).bind fun t176 => (if t176 = true then (if x11 > 0 then (if 0 ≤ (wrap64 (x11 - 1)) then (if (wrap64 (x11 - 1)) < (x0.length : Int) then (if (rd x0 (wrap64 (x11 - 1))) ≥ (rd x9 x11) then (some false) else (spec_l1Rising.l0 k x0 x1 x2 x9 x10 (wrap64 (x11 + 1)))) else (none)) else (none)) else (spec_l1Rising.l0 k x0 x1 x2 x9 x10 (wrap64 (x11 + 1)))) else (some false))) else (none)) else (none)) else (some true)
def spec_l1Rising.f (k : Nat) (l0 : List Int) (a1 : Int) (a2 : Int) : Option (Bool):=spec_l1Rising.l0 k l0 a1 a2 l0 (l0.length : Int) 0
theorem spec_l1Rising.mono_l : ∀ k,(∀ y0 y1 y2 y3 y4 y5,LeO (spec_l1Rising.l0 k y0 y1 y2 y3 y4 y5) (spec_l1Rising.l0 (k + 1) y0 y1 y2 y3 y4 y5))
 | 0 => fun _ _ _ _ _ _ r h => by simp [spec_l1Rising.l0] at h
 | k + 1 => by
  have ih0:=spec_l1Rising.mono_l k
  ·
   intro y0 y1 y2 y3 y4 y5
   unfold spec_l1Rising.l0
   repeat' first
   | (with_reducible exact ih0 _ _ _ _ _ _)
   | (with_reducible exact LeO.refl _)
   | (with_reducible exact LeO.none _)
   | (with_reducible refine LeO.ite ?_ ?_)
   | (with_reducible refine LeO.bind ?_ (fun _ => ?_))
   | exact ih0 _ _ _ _ _ _
   | exact LeO.none _
   | refine LeO.ite ?_ ?_
   | refine LeO.bind ?_ (fun _ => ?_)
theorem spec_l1Rising.mono : ∀ a0 a1 a2 k,LeO (spec_l1Rising.f k a0 a1 a2) (spec_l1Rising.f (k + 1) a0 a1 a2):=by
 intro a0 a1 a2 k
 have ih0:=spec_l1Rising.mono_l k
 unfold spec_l1Rising.f
 repeat' first
   | (with_reducible exact ih0 _ _ _ _ _ _)
   | (with_reducible exact LeO.refl _)
   | (with_reducible exact LeO.none _)
   | (with_reducible refine LeO.ite ?_ ?_)
   | (with_reducible refine LeO.bind ?_ (fun _ => ?_))
   | exact ih0 _ _ _ _ _ _
   | exact LeO.none _
   | refine LeO.ite ?_ ?_
   | refine LeO.bind ?_ (fun _ => ?_)
set_option maxHeartbeats 8000000 in
set_option maxRecDepth 100000 in
theorem spec_l1Rising.calls (k : Nat) (A0 : Option Addr) (c0 : Nat) (l0 : List Int) (a1 : Int) (a2 : Int) (r : Bool) (w : World) (hr0 : Kd.C (Kd.int .i64) w A0 l0.length l0) (hc0 : l0.length ≤ c0) (h : spec_l1Rising.f k l0 a1 a2 = some r) :
  Calls Try.prog 182 #[.slice A0 l0.length c0,.int .i64 a1,.int .i64 a2] w fun e w' => e = .returned (.bool r) ∧ Drawn0 w w':=by
 have HR0:=Aside0.mk hr0
 have HC0:=Aside0.mk hc0
 clear hr0 hc0
 have H : (spec_l1Rising.l0 k l0 a1 a2 l0 (l0.length : Int) 0) = some r:=h
 clear h
 have H':=Aside0.mk H
 clear H
 go_enter Try.func182,Try.ntmps182
 go_wp2
 go_loopg [11] k (fun kq v11 w' => ∃ (x11_1 : Int),v11 = .int .i64 x11_1 ∧ Aside0 (spec_l1Rising.l0 kq l0 a1 a2 l0 (l0.length : Int) x11_1 = some r) ∧ Aside0 (kq ≤ k) ∧ Drawn0 w w')
 case atStart => exact ⟨(0),(by first|rfl|(simp;done)|(simp [*];done)),H',⟨Nat.le_refl _⟩,by repeat (first|exact Drawn0.refl _|apply Drawn0.step)⟩
 case round =>
  clear H';try clear c1
  try clear p2
  obtain ⟨x11_1,rfl,HA,HK1,⟨m1,rfl⟩⟩:=hrel
  cases gk with
  | zero => exact absurd HA.out (by simp [spec_l1Rising.l0])
  | succ k1 =>
   have H:=HA.out
   clear HA;simp only [spec_l1Rising.l0] at H;by_cases c4 : x11_1 < (l0.length : Int)
   ·
    rw [if_pos c4] at H
    have c4b0 : decide (x11_1 < (l0.length : Int)) = true:=decide_eq_true c4
    clear c4;by_cases c5 : 0 ≤ x11_1
    ·
     rw [if_pos c5] at H
     have c5b0 : decide (0 ≤ x11_1) = true:=decide_eq_true c5
     clear c5;by_cases c6 : x11_1 < (l0.length : Int)
     ·
      rw [if_pos c6] at H
      have c6b0 : decide (x11_1 < (l0.length : Int)) = true:=decide_eq_true c6
      clear c6;replace H:=Option.bind_eq_some_iff.mp H;obtain ⟨t176,A70,H⟩:=H;replace H : (if t176 = true then (if x11_1 > 0 then (if 0 ≤ (wrap64 (x11_1 - 1)) then (if (wrap64 (x11_1 - 1)) < (l0.length : Int) then (if (rd l0 (wrap64 (x11_1 - 1))) ≥ (rd l0 x11_1) then (some false) else (spec_l1Rising.l0 k1 l0 a1 a2 l0 (l0.length : Int) (wrap64 (x11_1 + 1)))) else (none)) else (none)) else (spec_l1Rising.l0 k1 l0 a1 a2 l0 (l0.length : Int) (wrap64 (x11_1 + 1)))) else (some false)) = some r:=H;have A7:=Aside0.mk A70;clear A70;by_cases c8 : t176 = true
      ·
       subst c8;have H1 : (if x11_1 > 0 then (if 0 ≤ (wrap64 (x11_1 - 1)) then (if (wrap64 (x11_1 - 1)) < (l0.length : Int) then (if (rd l0 (wrap64 (x11_1 - 1))) ≥ (rd l0 x11_1) then (some false) else (spec_l1Rising.l0 k1 l0 a1 a2 l0 (l0.length : Int) (wrap64 (x11_1 + 1)))) else (none)) else (none)) else (spec_l1Rising.l0 k1 l0 a1 a2 l0 (l0.length : Int) (wrap64 (x11_1 + 1)))) = some r:=by rw [if_pos rfl] at H;exact H
       clear H;have H:=H1;clear H1;by_cases c9 : x11_1 > 0
       ·
        rw [if_pos c9] at H
        have c9b0 : decide (0 < x11_1) = true:=decide_eq_true c9
        clear c9;obtain ⟨ji10,hji10⟩ : ∃ j_ : Int,(wrap64 (x11_1 - 1)) = j_:=⟨_,rfl⟩;replace H : (if 0 ≤ (ji10) then (if (ji10) < (l0.length : Int) then (if (rd l0 (ji10)) ≥ (rd l0 x11_1) then (some false) else (spec_l1Rising.l0 k1 l0 a1 a2 l0 (l0.length : Int) (wrap64 (x11_1 + 1)))) else (none)) else (none)) = some r:=by first|(rw [hji10] at H;exact H)|(simp only [hji10] at H ⊢;exact H)
        (try rw [hji10] at A7)
        have hji10w : (IntKind.i64.wrap (x11_1 - 1)) = ji10:=(i64_w _).trans hji10
        by_cases c11 : 0 ≤ (ji10)
        ·
         rw [if_pos c11] at H
         have c11b0 : decide (0 ≤ (ji10)) = true:=decide_eq_true c11
         clear c11;by_cases c12 : (ji10) < (l0.length : Int)
         ·
          rw [if_pos c12] at H
          have c12b0 : decide ((ji10) < (l0.length : Int)) = true:=decide_eq_true c12
          clear c12;by_cases c13 : (rd l0 (ji10)) ≥ (rd l0 x11_1)
          ·
           rw [if_pos c13] at H
           have c13b0 : decide ((rd l0 x11_1) ≤ (rd l0 (ji10))) = true:=decide_eq_true c13
           clear c13;obtain rfl:=Option.some.inj H;have p175 : 0 ≤ (x11_1 : Int):=of_decide_eq_true (by assumption)
           have q175 : x11_1 < (l0.length : Int):=of_decide_eq_true (by assumption)
           obtain ⟨ad175,e175,hx175_0⟩:=Kd.at_int HR0.out x11_1 p175 q175;cases e175;replace p175:=eq_true p175;replace q175:=eq_true q175;go_wp2_with (first|((with_reducible refine gate_callee (f:=111) rfl ?_);refine goesL_ (some 19) rfl rfl Try.func111 (by kernel_rfl) rfl #[.int .i64 (rd l0 x11_1),.int .i64 a1,.int .i64 a2] rfl (by (try simp only [List.map_toArray,List.map_cons,List.map_nil]);first|done|rfl|(simp only [List.length_drop,List.length_take];rfl)) ?_;(with_reducible refine (spec_l1In.calls (rd l0 x11_1) a1 a2 true _ A7.out).mono ?_);rintro e w' ⟨rfl,⟨nd,rfl⟩⟩;refine ⟨_,rfl,?_⟩;have p177 : 0 ≤ ((ji10) : Int):=of_decide_eq_true (by assumption);have q177 : (ji10) < (l0.length : Int):=of_decide_eq_true (by assumption);obtain ⟨ad177,e177,hx177_0⟩:=Kd.at_int HR0.out (ji10) p177 q177;obtain rfl : ad175 = ad177:=(by injection e177);replace p177:=eq_true p177;replace q177:=eq_true q177))
           go_ret
           exact ⟨by first|rfl|(simp;done)|(simp only [← hji10] <;> (first|rfl|simp))|(simp [*];done),by repeat (first|exact Drawn0.refl _|apply Drawn0.step)⟩
          ·
           rw [if_neg c13] at H
           have c13b0 : decide ((rd l0 x11_1) ≤ (rd l0 (ji10))) = false:=decide_eq_false c13
           clear c13;have H':=Aside0.mk H;clear H;have p175 : 0 ≤ (x11_1 : Int):=of_decide_eq_true (by assumption)
           have q175 : x11_1 < (l0.length : Int):=of_decide_eq_true (by assumption)
           obtain ⟨ad175,e175,hx175_0⟩:=Kd.at_int HR0.out x11_1 p175 q175;cases e175;replace p175:=eq_true p175;replace q175:=eq_true q175;go_wp2_with (first|((with_reducible refine gate_callee (f:=111) rfl ?_);refine goesL_ (some 19) rfl rfl Try.func111 (by kernel_rfl) rfl #[.int .i64 (rd l0 x11_1),.int .i64 a1,.int .i64 a2] rfl (by (try simp only [List.map_toArray,List.map_cons,List.map_nil]);first|done|rfl|(simp only [List.length_drop,List.length_take];rfl)) ?_;(with_reducible refine (spec_l1In.calls (rd l0 x11_1) a1 a2 true _ A7.out).mono ?_);rintro e w' ⟨rfl,⟨nd,rfl⟩⟩;refine ⟨_,rfl,?_⟩;have p177 : 0 ≤ ((ji10) : Int):=of_decide_eq_true (by assumption);have q177 : (ji10) < (l0.length : Int):=of_decide_eq_true (by assumption);obtain ⟨ad177,e177,hx177_0⟩:=Kd.at_int HR0.out (ji10) p177 q177;obtain rfl : ad175 = ad177:=(by injection e177);replace p177:=eq_true p177;replace q177:=eq_true q177))
           go_roundg k1
           case measure => have:=HK1.out;omega
           case rel => exact ⟨(wrap64 (x11_1 + 1)),(by first|rfl|(simp;done)|(simp [*];done)),H',⟨by have:=HK1.out;omega⟩,by repeat (first|exact Drawn0.refl _|apply Drawn0.step)⟩
         ·
          rw [if_neg c12] at H
          exact absurd H (by simp)
        ·
         rw [if_neg c11] at H
         exact absurd H (by simp)
       ·
        rw [if_neg c9] at H
        have c9b0 : decide (0 < x11_1) = false:=decide_eq_false c9
        clear c9;have H':=Aside0.mk H;clear H;have p175 : 0 ≤ (x11_1 : Int):=of_decide_eq_true (by assumption)
        have q175 : x11_1 < (l0.length : Int):=of_decide_eq_true (by assumption)
        obtain ⟨ad175,e175,hx175_0⟩:=Kd.at_int HR0.out x11_1 p175 q175;cases e175;replace p175:=eq_true p175;replace q175:=eq_true q175;go_wp2_with (first|((with_reducible refine gate_callee (f:=111) rfl ?_);refine goesL_ (some 19) rfl rfl Try.func111 (by kernel_rfl) rfl #[.int .i64 (rd l0 x11_1),.int .i64 a1,.int .i64 a2] rfl (by (try simp only [List.map_toArray,List.map_cons,List.map_nil]);first|done|rfl|(simp only [List.length_drop,List.length_take];rfl)) ?_;(with_reducible refine (spec_l1In.calls (rd l0 x11_1) a1 a2 true _ A7.out).mono ?_);rintro e w' ⟨rfl,⟨nd,rfl⟩⟩;refine ⟨_,rfl,?_⟩))
        go_roundg k1
        case measure => have:=HK1.out;omega
        case rel => exact ⟨(wrap64 (x11_1 + 1)),(by first|rfl|(simp;done)|(simp [*];done)),H',⟨by have:=HK1.out;omega⟩,by repeat (first|exact Drawn0.refl _|apply Drawn0.step)⟩
      ·
       replace c8:=Bool.eq_false_iff.mpr c8
       subst c8;have H1 : (some false) = some r:=by rw [if_neg (show ¬ (false = true) by decide)] at H;exact H
       clear H;have H:=H1;clear H1;obtain rfl:=Option.some.inj H;have p175 : 0 ≤ (x11_1 : Int):=of_decide_eq_true (by assumption)
       have q175 : x11_1 < (l0.length : Int):=of_decide_eq_true (by assumption)
       obtain ⟨ad175,e175,hx175_0⟩:=Kd.at_int HR0.out x11_1 p175 q175;cases e175;replace p175:=eq_true p175;replace q175:=eq_true q175;go_wp2_with (first|((with_reducible refine gate_callee (f:=111) rfl ?_);refine goesL_ (some 19) rfl rfl Try.func111 (by kernel_rfl) rfl #[.int .i64 (rd l0 x11_1),.int .i64 a1,.int .i64 a2] rfl (by (try simp only [List.map_toArray,List.map_cons,List.map_nil]);first|done|rfl|(simp only [List.length_drop,List.length_take];rfl)) ?_;(with_reducible refine (spec_l1In.calls (rd l0 x11_1) a1 a2 false _ A7.out).mono ?_);rintro e w' ⟨rfl,⟨nd,rfl⟩⟩;refine ⟨_,rfl,?_⟩))
       go_ret
       exact ⟨by first|rfl|(simp;done)|(simp [*];done),by repeat (first|exact Drawn0.refl _|apply Drawn0.step)⟩
     ·
      rw [if_neg c6] at H
      exact absurd H (by simp)
    ·
     rw [if_neg c5] at H
     exact absurd H (by simp)
   ·
    rw [if_neg c4] at H
    have c4b0 : decide (x11_1 < (l0.length : Int)) = false:=decide_eq_false c4
    clear c4;obtain rfl:=Option.some.inj H;go_wp2;go_ret;exact ⟨by first|rfl|(simp;done)|(simp [*];done),by repeat (first|exact Drawn0.refl _|apply Drawn0.step)⟩

def spec_inGood.f (k : Nat) (l0_0 : List Int) (a0_1 : Int) : Option (Bool):=(spec_l1In.f (l0_0.length : Int) 1 20).bind fun t179 => (if t179 = true then ((spec_l1Rising.f k l0_0 24 96).bind fun t180 => (if t180 = true then ((spec_l1In.f a0_1 1 20).bind fun t181 => (some t181)) else (some false))) else (some false))
theorem spec_inGood.mono : ∀ a0 a1 k,LeO (spec_inGood.f k a0 a1) (spec_inGood.f (k + 1) a0 a1):=by
 intro a0 a1 k
 unfold spec_inGood.f
 repeat' first
   | (with_reducible exact spec_l1Rising.mono _ _ _ _)
   | (with_reducible exact LeO.refl _)
   | (with_reducible exact LeO.none _)
   | (with_reducible refine LeO.ite ?_ ?_)
   | (with_reducible refine LeO.bind ?_ (fun _ => ?_))
   | exact LeO.none _
   | refine LeO.ite ?_ ?_
   | refine LeO.bind ?_ (fun _ => ?_)
set_option maxHeartbeats 8000000 in
set_option maxRecDepth 100000 in
theorem spec_inGood.calls (k : Nat) (A0_0 : Option Addr) (c0_0 : Nat) (l0_0 : List Int) (a0_1 : Int) (r : Bool) (w : World) (hr0_0 : Kd.C (Kd.int .i64) w A0_0 l0_0.length l0_0) (hc0_0 : l0_0.length ≤ c0_0) (h : spec_inGood.f k l0_0 a0_1 = some r) :
  Calls Try.prog 167 #[.agg #[.slice A0_0 l0_0.length c0_0,.int .i64 a0_1]] w fun e w' => e = .returned (.bool r) ∧ Below w.heap.size w w':=by
 have hu102:=Try.underlying102
 have HR0_0:=Aside0.mk hr0_0
 have HC0_0:=Aside0.mk hc0_0
 clear hr0_0 hc0_0
 have HB:=Aside0.mk (Below.refl w.heap.size w)
 have H : ((spec_l1In.f (l0_0.length : Int) 1 20).bind fun t179 => (if t179 = true then ((spec_l1Rising.f k l0_0 24 96).bind fun t180 => (if t180 = true then ((spec_l1In.f a0_1 1 20).bind fun t181 => (some t181)) else (some false))) else (some false))) = some r:=h
 clear h
 replace H:=Option.bind_eq_some_iff.mp H
 obtain ⟨t179,A20,H⟩:=H
 replace H : (if t179 = true then ((spec_l1Rising.f k l0_0 24 96).bind fun t180 => (if t180 = true then ((spec_l1In.f a0_1 1 20).bind fun t181 => (some t181)) else (some false))) else (some false)) = some r:=H
 have A2:=Aside0.mk A20
 clear A20
 by_cases c3 : t179 = true
 ·
  subst c3;have H1 : ((spec_l1Rising.f k l0_0 24 96).bind fun t180 => (if t180 = true then ((spec_l1In.f a0_1 1 20).bind fun t181 => (some t181)) else (some false))) = some r:=by rw [if_pos rfl] at H;exact H
  clear H;have H:=H1;clear H1;replace H:=Option.bind_eq_some_iff.mp H;obtain ⟨t180,A40,H⟩:=H;replace H : (if t180 = true then ((spec_l1In.f a0_1 1 20).bind fun t181 => (some t181)) else (some false)) = some r:=H
  have A4:=Aside0.mk A40;clear A40;by_cases c5 : t180 = true
  ·
   subst c5;have H1 : ((spec_l1In.f a0_1 1 20).bind fun t181 => (some t181)) = some r:=by rw [if_pos rfl] at H;exact H
   clear H;have H:=H1;clear H1;replace H:=Option.bind_eq_some_iff.mp H;obtain ⟨t181,A60,H⟩:=H;replace H : (some t181) = some r:=H;have A6:=Aside0.mk A60;clear A60;obtain rfl:=Option.some.inj H;go_enter Try.func167,Try.ntmps167;go_wp2_with (first|((with_reducible refine gate_dst (N:=1) rfl ?_);refine box_event ?hg (N:=1) ?hd (cs:=#[.slice A0_0 l0_0.length c0_0,.int .i64 a0_1]) (t:=102) ?hr ?_;(case hd => rfl);(case hg => rfl);(case hr => first|(go_simp;done)|(go_simp;rfl));intro gb178 hg w7 hbox hb;have n0_:=Aside0.mk (below_step (by repeat (first|(with_reducible first|exact HB.out|apply below_alloc|apply pw_below_drewN|apply below_drew1)|exact HB.out)) hb);have n1_:=Aside0.mk (hbox);have n2_:=Aside0.mk ((by rw [hg];exact (below_size (by repeat (first|(with_reducible first|exact HB.out|apply below_alloc|apply pw_below_drewN|apply below_drew1)|exact HB.out))) : w.heap.size ≤ gb178));have n3_:=Aside0.mk ((by rw [hg];exact (below_size (by repeat (first|(with_reducible first|exact HB.out|apply below_alloc|apply pw_below_drewN|apply below_drew1)|exact HB.out))) : w.heap.size ≤ gb178));clear HB;have HB:=n0_;have BK178:=n1_;have GW178:=n2_;have GE178:=n3_;clear n0_ n1_ n2_ n3_;clear hb hbox hg;have hcz8_0 : w7.cell? ⟨gb178,0,none⟩ = some (.slice A0_0 l0_0.length c0_0):=(blk_cell BK178.out 0).trans rfl;have hcz8_1 : w7.cell? ⟨gb178,1,none⟩ = some (.int .i64 a0_1):=(blk_cell BK178.out 1).trans rfl;have hfz8_0:=blk_frozen BK178.out 0;have hfz8_1:=blk_frozen BK178.out 1)|((with_reducible refine gate_callee (f:=111) rfl ?_);refine goesL_ (some 6) rfl rfl Try.func111 (by kernel_rfl) rfl #[.int .i64 (l0_0.length : Int),.int .i64 1,.int .i64 20] rfl (by (try simp only [List.map_toArray,List.map_cons,List.map_nil]);first|done|rfl|(simp only [List.length_drop,List.length_take];rfl)) ?_;(with_reducible refine (spec_l1In.calls (l0_0.length : Int) 1 20 true _ A2.out).mono ?_);rintro e w' ⟨rfl,⟨nd,rfl⟩⟩;refine ⟨_,rfl,?_⟩)|(go_at_call 182;(with_reducible refine (spec_l1Rising.calls k _ _ l0_0 24 96 true _ ?side1 ?side2 A4.out).mono ?_);(case side1 => repeat (first|exact (Kd.C_below HR0_0.out (by repeat (first|(with_reducible first|exact HB.out|apply below_alloc|apply pw_below_drewN|apply below_drew1|refine below_set ?_ GE178.out)|exact HB.out)))|(with_reducible refine Kd.C_alloc ?_ _)|(with_reducible refine Kd.C_drewN ?_ _)|(with_reducible refine Kd.C_drew ?_)));(case side2 => exact HC0_0.out);rintro e w' ⟨rfl,⟨nd,rfl⟩⟩)|(go_at_call 111;(with_reducible refine (spec_l1In.calls a0_1 1 20 t181 _ A6.out).mono ?_);rintro e w' ⟨rfl,⟨nd,rfl⟩⟩))
   go_ret
   exact ⟨by first|rfl|(simp [errW_none,errW_some] <;> rfl)|(simp [*,errW_none,errW_some] <;> rfl),by repeat (first|(with_reducible first|exact HB.out|apply below_alloc|apply pw_below_drewN|apply below_drew1|refine below_set ?_ GE178.out)|exact HB.out)⟩
  ·
   replace c5:=Bool.eq_false_iff.mpr c5
   subst c5;have H1 : (some false) = some r:=by rw [if_neg (show ¬ (false = true) by decide)] at H;exact H
   clear H;have H:=H1;clear H1;obtain rfl:=Option.some.inj H;go_enter Try.func167,Try.ntmps167;go_wp2_with (first|((with_reducible refine gate_dst (N:=1) rfl ?_);refine box_event ?hg (N:=1) ?hd (cs:=#[.slice A0_0 l0_0.length c0_0,.int .i64 a0_1]) (t:=102) ?hr ?_;(case hd => rfl);(case hg => rfl);(case hr => first|(go_simp;done)|(go_simp;rfl));intro gb178 hg w9 hbox hb;have n0_:=Aside0.mk (below_step (by repeat (first|(with_reducible first|exact HB.out|apply below_alloc|apply pw_below_drewN|apply below_drew1)|exact HB.out)) hb);have n1_:=Aside0.mk (hbox);have n2_:=Aside0.mk ((by rw [hg];exact (below_size (by repeat (first|(with_reducible first|exact HB.out|apply below_alloc|apply pw_below_drewN|apply below_drew1)|exact HB.out))) : w.heap.size ≤ gb178));have n3_:=Aside0.mk ((by rw [hg];exact (below_size (by repeat (first|(with_reducible first|exact HB.out|apply below_alloc|apply pw_below_drewN|apply below_drew1)|exact HB.out))) : w.heap.size ≤ gb178));clear HB;have HB:=n0_;have BK178:=n1_;have GW178:=n2_;have GE178:=n3_;clear n0_ n1_ n2_ n3_;clear hb hbox hg;have hcz10_0 : w9.cell? ⟨gb178,0,none⟩ = some (.slice A0_0 l0_0.length c0_0):=(blk_cell BK178.out 0).trans rfl;have hcz10_1 : w9.cell? ⟨gb178,1,none⟩ = some (.int .i64 a0_1):=(blk_cell BK178.out 1).trans rfl;have hfz10_0:=blk_frozen BK178.out 0;have hfz10_1:=blk_frozen BK178.out 1)|((with_reducible refine gate_callee (f:=111) rfl ?_);refine goesL_ (some 6) rfl rfl Try.func111 (by kernel_rfl) rfl #[.int .i64 (l0_0.length : Int),.int .i64 1,.int .i64 20] rfl (by (try simp only [List.map_toArray,List.map_cons,List.map_nil]);first|done|rfl|(simp only [List.length_drop,List.length_take];rfl)) ?_;(with_reducible refine (spec_l1In.calls (l0_0.length : Int) 1 20 true _ A2.out).mono ?_);rintro e w' ⟨rfl,⟨nd,rfl⟩⟩;refine ⟨_,rfl,?_⟩)|(go_at_call 182;(with_reducible refine (spec_l1Rising.calls k _ _ l0_0 24 96 false _ ?side1 ?side2 A4.out).mono ?_);(case side1 => repeat (first|exact (Kd.C_below HR0_0.out (by repeat (first|(with_reducible first|exact HB.out|apply below_alloc|apply pw_below_drewN|apply below_drew1|refine below_set ?_ GE178.out)|exact HB.out)))|(with_reducible refine Kd.C_alloc ?_ _)|(with_reducible refine Kd.C_drewN ?_ _)|(with_reducible refine Kd.C_drew ?_)));(case side2 => exact HC0_0.out);rintro e w' ⟨rfl,⟨nd,rfl⟩⟩))
   go_ret
   exact ⟨by first|rfl|(simp [errW_none,errW_some] <;> rfl)|(simp [*,errW_none,errW_some] <;> rfl),by repeat (first|(with_reducible first|exact HB.out|apply below_alloc|apply pw_below_drewN|apply below_drew1|refine below_set ?_ GE178.out)|exact HB.out)⟩
 ·
  replace c3:=Bool.eq_false_iff.mpr c3
  subst c3;have H1 : (some false) = some r:=by rw [if_neg (show ¬ (false = true) by decide)] at H;exact H
  clear H;have H:=H1;clear H1;obtain rfl:=Option.some.inj H;go_enter Try.func167,Try.ntmps167;go_wp2_with (first|((with_reducible refine gate_dst (N:=1) rfl ?_);refine box_event ?hg (N:=1) ?hd (cs:=#[.slice A0_0 l0_0.length c0_0,.int .i64 a0_1]) (t:=102) ?hr ?_;(case hd => rfl);(case hg => rfl);(case hr => first|(go_simp;done)|(go_simp;rfl));intro gb178 hg w11 hbox hb;have n0_:=Aside0.mk (below_step (by repeat (first|(with_reducible first|exact HB.out|apply below_alloc|apply pw_below_drewN|apply below_drew1)|exact HB.out)) hb);have n1_:=Aside0.mk (hbox);have n2_:=Aside0.mk ((by rw [hg];exact (below_size (by repeat (first|(with_reducible first|exact HB.out|apply below_alloc|apply pw_below_drewN|apply below_drew1)|exact HB.out))) : w.heap.size ≤ gb178));have n3_:=Aside0.mk ((by rw [hg];exact (below_size (by repeat (first|(with_reducible first|exact HB.out|apply below_alloc|apply pw_below_drewN|apply below_drew1)|exact HB.out))) : w.heap.size ≤ gb178));clear HB;have HB:=n0_;have BK178:=n1_;have GW178:=n2_;have GE178:=n3_;clear n0_ n1_ n2_ n3_;clear hb hbox hg;have hcz12_0 : w11.cell? ⟨gb178,0,none⟩ = some (.slice A0_0 l0_0.length c0_0):=(blk_cell BK178.out 0).trans rfl;have hcz12_1 : w11.cell? ⟨gb178,1,none⟩ = some (.int .i64 a0_1):=(blk_cell BK178.out 1).trans rfl;have hfz12_0:=blk_frozen BK178.out 0;have hfz12_1:=blk_frozen BK178.out 1)|((with_reducible refine gate_callee (f:=111) rfl ?_);refine goesL_ (some 6) rfl rfl Try.func111 (by kernel_rfl) rfl #[.int .i64 (l0_0.length : Int),.int .i64 1,.int .i64 20] rfl (by (try simp only [List.map_toArray,List.map_cons,List.map_nil]);first|done|rfl|(simp only [List.length_drop,List.length_take];rfl)) ?_;(with_reducible refine (spec_l1In.calls (l0_0.length : Int) 1 20 false _ A2.out).mono ?_);rintro e w' ⟨rfl,⟨nd,rfl⟩⟩;refine ⟨_,rfl,?_⟩))
  go_ret
  exact ⟨by first|rfl|(simp [errW_none,errW_some] <;> rfl)|(simp [*,errW_none,errW_some] <;> rfl),by repeat (first|(with_reducible first|exact HB.out|apply below_alloc|apply pw_below_drewN|apply below_drew1|refine below_set ?_ GE178.out)|exact HB.out)⟩

def spec_clGood.l0 : Nat → List (S102) → List (S102) → Int → Int → Option (Bool)
 | 0,_,_,_,_ => none
 | k + 1,x0,x5,x6,x7 => if x7 < x6 then (if 0 ≤ x7 then (if x7 < (x5.length : Int) then ((spec_inGood.f k ((rd_T102 x5 x7).f0) ((rd_T102 x5 x7).f1)).bind fun t184 => (if t184 = true then (spec_clGood.l0 k x0 x5 x6 (wrap64 (x7 + 1))) else (some false))) else (none)) else (none)) else ((spec_l1In.f (x0.length : Int) 1 6).bind fun t185 => (some t185))
def spec_clGood.f (k : Nat) (l0 : List (S102)) : Option (Bool):=spec_clGood.l0 k l0 l0 (l0.length : Int) 0
theorem spec_clGood.mono_l : ∀ k,(∀ y0 y1 y2 y3,LeO (spec_clGood.l0 k y0 y1 y2 y3) (spec_clGood.l0 (k + 1) y0 y1 y2 y3))
 | 0 => fun _ _ _ _ r h => by simp [spec_clGood.l0] at h
 | k + 1 => by
  have ih0:=spec_clGood.mono_l k
  ·
   intro y0 y1 y2 y3
   unfold spec_clGood.l0
   repeat' first
   | (with_reducible exact ih0 _ _ _ _)
   | (with_reducible exact spec_inGood.mono _ _ _)
   | (with_reducible exact LeO.refl _)
   | (with_reducible exact LeO.none _)
   | (with_reducible refine LeO.ite ?_ ?_)
   | (with_reducible refine LeO.bind ?_ (fun _ => ?_))
   | exact ih0 _ _ _ _
   | exact LeO.none _
   | refine LeO.ite ?_ ?_
   | refine LeO.bind ?_ (fun _ => ?_)
theorem spec_clGood.mono : ∀ a0 k,LeO (spec_clGood.f k a0) (spec_clGood.f (k + 1) a0):=by
 intro a0 k
 have ih0:=spec_clGood.mono_l k
 unfold spec_clGood.f
 repeat' first
   | (with_reducible exact ih0 _ _ _ _)
   | (with_reducible exact spec_inGood.mono _ _ _)
   | (with_reducible exact LeO.refl _)
   | (with_reducible exact LeO.none _)
   | (with_reducible refine LeO.ite ?_ ?_)
   | (with_reducible refine LeO.bind ?_ (fun _ => ?_))
   | exact ih0 _ _ _ _
   | exact LeO.none _
   | refine LeO.ite ?_ ?_
   | refine LeO.bind ?_ (fun _ => ?_)
set_option maxHeartbeats 8000000 in
set_option maxRecDepth 100000 in
theorem spec_clGood.calls (k : Nat) (A0 : Option Addr) (c0 : Nat) (l0 : List (S102)) (r : Bool) (w : World) (hr0 : Kd.C k102 w A0 l0.length l0) (hc0 : l0.length ≤ c0) (h : spec_clGood.f k l0 = some r) :
  Calls Try.prog 148 #[.slice A0 l0.length c0] w fun e w' => e = .returned (.bool r) ∧ Below w.heap.size w w':=by
 have hu102:=Try.underlying102
 have HR0:=Aside0.mk hr0
 have HC0:=Aside0.mk hc0
 clear hr0 hc0
 have HB:=Aside0.mk (Below.refl w.heap.size w)
 have H : (spec_clGood.l0 k l0 l0 (l0.length : Int) 0) = some r:=h
 clear h
 have H':=Aside0.mk H
 clear H
 go_enter Try.func148,Try.ntmps148
 go_wp2
 go_loopg [7] k (fun kq v7 w' => ∃ (x7_1 : Int),v7 = .int .i64 x7_1 ∧ Aside0 (spec_clGood.l0 kq l0 l0 (l0.length : Int) x7_1 = some r) ∧ Aside0 (kq ≤ k) ∧ Aside0 (Below w.heap.size w w'))
 case atStart => exact ⟨(0),(by first|rfl|(simp;done)|(simp [*];done)),H',⟨Nat.le_refl _⟩,⟨by repeat (first|(with_reducible first|exact HB.out|apply below_alloc|apply pw_below_drewN|apply below_drew1)|exact HB.out)⟩⟩
 case round =>
  clear H';try clear c1
  obtain ⟨x7_1,rfl,HA,HK1,HB⟩:=hrel
  cases gk with
  | zero => exact absurd HA.out (by simp [spec_clGood.l0])
  | succ k1 =>
   have H:=HA.out
   clear HA;simp only [spec_clGood.l0] at H;by_cases c2 : x7_1 < (l0.length : Int)
   ·
    rw [if_pos c2] at H
    have c2b0 : decide (x7_1 < (l0.length : Int)) = true:=decide_eq_true c2
    clear c2;by_cases c3 : 0 ≤ x7_1
    ·
     rw [if_pos c3] at H
     have c3b0 : decide (0 ≤ x7_1) = true:=decide_eq_true c3
     clear c3;by_cases c4 : x7_1 < (l0.length : Int)
     ·
      rw [if_pos c4] at H
      have c4b0 : decide (x7_1 < (l0.length : Int)) = true:=decide_eq_true c4
      clear c4;replace H:=Option.bind_eq_some_iff.mp H;obtain ⟨t184,A50,H⟩:=H;replace H : (if t184 = true then (spec_clGood.l0 k1 l0 l0 (l0.length : Int) (wrap64 (x7_1 + 1))) else (some false)) = some r:=H;have A5:=Aside0.mk A50;clear A50;by_cases c6 : t184 = true
      ·
       subst c6;have H1 : (spec_clGood.l0 k1 l0 l0 (l0.length : Int) (wrap64 (x7_1 + 1))) = some r:=by rw [if_pos rfl] at H;exact H
       clear H;have H:=H1;clear H1;have H':=Aside0.mk H;clear H;have p182 : 0 ≤ (x7_1 : Int):=of_decide_eq_true (by assumption)
       have q182 : x7_1 < (l0.length : Int):=of_decide_eq_true (by assumption)
       obtain ⟨ad182,A182_0,c182_0,e182,hx182_0,hx182_1,hl182_0,hi182_0⟩:=at_T102 HR0.out x7_1 p182 q182
       cases e182
       replace hx182_0:=(HB.out.cell (World.block_lt_of_cell? w _ hx182_0)).trans hx182_0
       replace hx182_1:=(HB.out.cell (World.block_lt_of_cell? w _ hx182_1)).trans hx182_1
       have HR182_0:=Aside0.mk hi182_0;have HC182_0:=Aside0.mk hl182_0;clear hi182_0 hl182_0;replace p182:=eq_true p182;replace q182:=eq_true q182;go_wp2_with (first|((with_reducible refine gate_dst (N:=4) rfl ?_);refine box_event ?hg (N:=4) ?hd (cs:=#[.slice none 0 0,.int .i64 0]) (t:=102) ?hr ?_;(case hd => rfl);(case hg => rfl);(case hr => first|(go_simp;done)|(go_simp;rfl));intro gb183 hg w7 hbox hb;have n0_:=Aside0.mk (below_step (by repeat (first|(with_reducible first|exact HB.out|apply below_alloc|apply pw_below_drewN|apply below_drew1)|exact HB.out)) hb);have n1_:=Aside0.mk (hbox);have n2_:=Aside0.mk ((by rw [hg];exact (below_size (by repeat (first|(with_reducible first|exact HB.out|apply below_alloc|apply pw_below_drewN|apply below_drew1)|exact HB.out))) : w.heap.size ≤ gb183));have n3_:=Aside0.mk ((by rw [hg];exact (below_size (by repeat (first|(with_reducible first|exact HB.out|apply below_alloc|apply pw_below_drewN|apply below_drew1)|exact HB.out))) : w.heap.size ≤ gb183));clear HB;have HB:=n0_;have BK183:=n1_;have GW183:=n2_;have GE183:=n3_;clear n0_ n1_ n2_ n3_;clear hb hbox hg;have hcz8_0 : w7.cell? ⟨gb183,0,none⟩ = some (.slice none 0 0):=(blk_cell BK183.out 0).trans rfl;have hcz8_1 : w7.cell? ⟨gb183,1,none⟩ = some (.int .i64 0):=(blk_cell BK183.out 1).trans rfl;have hfz8_0:=blk_frozen BK183.out 0;have hfz8_1:=blk_frozen BK183.out 1)|((with_reducible refine gate_callee (f:=167) rfl ?_);refine goesL_ (some 12) rfl rfl Try.func167 (by kernel_rfl) rfl #[.agg #[.slice A182_0 ((rd_T102 l0 x7_1).f0).length c182_0,.int .i64 ((rd_T102 l0 x7_1).f1)]] rfl (by (try simp only [List.map_toArray,List.map_cons,List.map_nil]);first|done|rfl|(simp only [List.length_drop,List.length_take];rfl)) ?_;(with_reducible refine (spec_inGood.calls k1 _ _ ((rd_T102 l0 x7_1).f0) ((rd_T102 l0 x7_1).f1) true _ ?side1 ?side2 A5.out).mono ?_);(case side1 => exact Kd.C_below HR182_0.out (by repeat (first|(with_reducible first|exact HB.out|apply below_alloc|apply pw_below_drewN|apply below_drew1|refine below_set ?_ GE183.out)|exact HB.out)));(case side2 => exact HC182_0.out);rintro e w9 ⟨rfl,hb⟩;refine ⟨_,rfl,?_⟩;have n0_:=Aside0.mk (blk_below (g:=gb183) (o:=.cells #[.slice A182_0 ((rd_T102 l0 x7_1).f0).length c182_0,.int .i64 ((rd_T102 l0 x7_1).f1)] 102 (0,0)) (by (with_reducible repeat (first|refine blk_drewN ?_ _|refine blk_drew ?_|refine blk_alloc ?_ _));refine blk_put (cs:=#[.slice A182_0 ((rd_T102 l0 x7_1).f0).length c182_0,.int .i64 0]) ?_ 1 _ rfl;(with_reducible repeat (first|refine blk_drewN ?_ _|refine blk_drew ?_|refine blk_alloc ?_ _));refine blk_put (cs:=#[.slice none 0 0,.int .i64 0]) ?_ 0 _ rfl;(with_reducible repeat (first|refine blk_drewN ?_ _|refine blk_drew ?_|refine blk_alloc ?_ _));exact BK183.out) hb);have n1_:=Aside0.mk (below_step (by repeat (first|(with_reducible first|exact HB.out|apply below_alloc|apply pw_below_drewN|apply below_drew1|refine below_set ?_ GE183.out)|exact HB.out)) hb);clear BK183;clear HB;have BK183:=n0_;have HB:=n1_;clear n0_ n1_;(try clear hb);(try clear hb2);(try clear hk);(try clear hi)))
       go_roundg k1
       case measure => have:=HK1.out;omega
       case rel => exact ⟨(wrap64 (x7_1 + 1)),(by first|rfl|(simp;done)|(simp [*];done)),H',⟨by have:=HK1.out;omega⟩,⟨by repeat (first|(with_reducible first|exact HB.out|apply below_alloc|apply pw_below_drewN|apply below_drew1|refine below_set ?_ GE183.out)|exact HB.out)⟩⟩
      ·
       replace c6:=Bool.eq_false_iff.mpr c6
       subst c6;have H1 : (some false) = some r:=by rw [if_neg (show ¬ (false = true) by decide)] at H;exact H
       clear H;have H:=H1;clear H1;obtain rfl:=Option.some.inj H;have p182 : 0 ≤ (x7_1 : Int):=of_decide_eq_true (by assumption)
       have q182 : x7_1 < (l0.length : Int):=of_decide_eq_true (by assumption)
       obtain ⟨ad182,A182_0,c182_0,e182,hx182_0,hx182_1,hl182_0,hi182_0⟩:=at_T102 HR0.out x7_1 p182 q182
       cases e182
       replace hx182_0:=(HB.out.cell (World.block_lt_of_cell? w _ hx182_0)).trans hx182_0
       replace hx182_1:=(HB.out.cell (World.block_lt_of_cell? w _ hx182_1)).trans hx182_1
       have HR182_0:=Aside0.mk hi182_0;have HC182_0:=Aside0.mk hl182_0;clear hi182_0 hl182_0;replace p182:=eq_true p182;replace q182:=eq_true q182;go_wp2_with (first|((with_reducible refine gate_dst (N:=4) rfl ?_);refine box_event ?hg (N:=4) ?hd (cs:=#[.slice none 0 0,.int .i64 0]) (t:=102) ?hr ?_;(case hd => rfl);(case hg => rfl);(case hr => first|(go_simp;done)|(go_simp;rfl));intro gb183 hg w10 hbox hb;have n0_:=Aside0.mk (below_step (by repeat (first|(with_reducible first|exact HB.out|apply below_alloc|apply pw_below_drewN|apply below_drew1)|exact HB.out)) hb);have n1_:=Aside0.mk (hbox);have n2_:=Aside0.mk ((by rw [hg];exact (below_size (by repeat (first|(with_reducible first|exact HB.out|apply below_alloc|apply pw_below_drewN|apply below_drew1)|exact HB.out))) : w.heap.size ≤ gb183));have n3_:=Aside0.mk ((by rw [hg];exact (below_size (by repeat (first|(with_reducible first|exact HB.out|apply below_alloc|apply pw_below_drewN|apply below_drew1)|exact HB.out))) : w.heap.size ≤ gb183));clear HB;have HB:=n0_;have BK183:=n1_;have GW183:=n2_;have GE183:=n3_;clear n0_ n1_ n2_ n3_;clear hb hbox hg;have hcz11_0 : w10.cell? ⟨gb183,0,none⟩ = some (.slice none 0 0):=(blk_cell BK183.out 0).trans rfl;have hcz11_1 : w10.cell? ⟨gb183,1,none⟩ = some (.int .i64 0):=(blk_cell BK183.out 1).trans rfl;have hfz11_0:=blk_frozen BK183.out 0;have hfz11_1:=blk_frozen BK183.out 1)|((with_reducible refine gate_callee (f:=167) rfl ?_);refine goesL_ (some 12) rfl rfl Try.func167 (by kernel_rfl) rfl #[.agg #[.slice A182_0 ((rd_T102 l0 x7_1).f0).length c182_0,.int .i64 ((rd_T102 l0 x7_1).f1)]] rfl (by (try simp only [List.map_toArray,List.map_cons,List.map_nil]);first|done|rfl|(simp only [List.length_drop,List.length_take];rfl)) ?_;(with_reducible refine (spec_inGood.calls k1 _ _ ((rd_T102 l0 x7_1).f0) ((rd_T102 l0 x7_1).f1) false _ ?side1 ?side2 A5.out).mono ?_);(case side1 => exact Kd.C_below HR182_0.out (by repeat (first|(with_reducible first|exact HB.out|apply below_alloc|apply pw_below_drewN|apply below_drew1|refine below_set ?_ GE183.out)|exact HB.out)));(case side2 => exact HC182_0.out);rintro e w12 ⟨rfl,hb⟩;refine ⟨_,rfl,?_⟩;have n0_:=Aside0.mk (blk_below (g:=gb183) (o:=.cells #[.slice A182_0 ((rd_T102 l0 x7_1).f0).length c182_0,.int .i64 ((rd_T102 l0 x7_1).f1)] 102 (0,0)) (by (with_reducible repeat (first|refine blk_drewN ?_ _|refine blk_drew ?_|refine blk_alloc ?_ _));refine blk_put (cs:=#[.slice A182_0 ((rd_T102 l0 x7_1).f0).length c182_0,.int .i64 0]) ?_ 1 _ rfl;(with_reducible repeat (first|refine blk_drewN ?_ _|refine blk_drew ?_|refine blk_alloc ?_ _));refine blk_put (cs:=#[.slice none 0 0,.int .i64 0]) ?_ 0 _ rfl;(with_reducible repeat (first|refine blk_drewN ?_ _|refine blk_drew ?_|refine blk_alloc ?_ _));exact BK183.out) hb);have n1_:=Aside0.mk (below_step (by repeat (first|(with_reducible first|exact HB.out|apply below_alloc|apply pw_below_drewN|apply below_drew1|refine below_set ?_ GE183.out)|exact HB.out)) hb);clear BK183;clear HB;have BK183:=n0_;have HB:=n1_;clear n0_ n1_;(try clear hb);(try clear hb2);(try clear hk);(try clear hi)))
       go_ret
       exact ⟨by first|rfl|(simp [errW_none,errW_some] <;> rfl)|(simp [*,errW_none,errW_some] <;> rfl),by repeat (first|(with_reducible first|exact HB.out|apply below_alloc|apply pw_below_drewN|apply below_drew1|refine below_set ?_ GE183.out)|exact HB.out)⟩
     ·
      rw [if_neg c4] at H
      exact absurd H (by simp)
    ·
     rw [if_neg c3] at H
     exact absurd H (by simp)
   ·
    rw [if_neg c2] at H
    have c2b0 : decide (x7_1 < (l0.length : Int)) = false:=decide_eq_false c2
    clear c2;replace H:=Option.bind_eq_some_iff.mp H;obtain ⟨t185,A130,H⟩:=H;replace H : (some t185) = some r:=H;have A13:=Aside0.mk A130;clear A130;obtain rfl:=Option.some.inj H;go_wp2_with (first|((with_reducible refine gate_callee (f:=111) rfl ?_);refine goesL_ (some 17) rfl rfl Try.func111 (by kernel_rfl) rfl #[.int .i64 (l0.length : Int),.int .i64 1,.int .i64 6] rfl (by (try simp only [List.map_toArray,List.map_cons,List.map_nil]);first|done|rfl|(simp only [List.length_drop,List.length_take];rfl)) ?_;(with_reducible refine (spec_l1In.calls (l0.length : Int) 1 6 t185 _ A13.out).mono ?_);rintro e w' ⟨rfl,⟨nd,rfl⟩⟩;refine ⟨_,rfl,?_⟩))
    go_ret
    exact ⟨by first|rfl|(simp [errW_none,errW_some] <;> rfl)|(simp [*,errW_none,errW_some] <;> rfl),by repeat (first|(with_reducible first|exact HB.out|apply below_alloc|apply pw_below_drewN|apply below_drew1)|exact HB.out)⟩

def spec_clAsked.f (k : Nat) (l0 : List (S102)) (l1 : List (S85)) : Option (Bool):=(spec_clGood.f k l0).bind fun t186 => (if t186 = true then ((spec_ntGood.f k l1).bind fun t187 => (some t187)) else (some false))
theorem spec_clAsked.mono : ∀ a0 a1 k,LeO (spec_clAsked.f k a0 a1) (spec_clAsked.f (k + 1) a0 a1):=by
 intro a0 a1 k
 unfold spec_clAsked.f
 repeat' first
   | (with_reducible exact spec_clGood.mono _ _)
   | (with_reducible exact spec_ntGood.mono _ _)
   | (with_reducible exact LeO.refl _)
   | (with_reducible exact LeO.none _)
   | (with_reducible refine LeO.ite ?_ ?_)
   | (with_reducible refine LeO.bind ?_ (fun _ => ?_))
   | exact LeO.none _
   | refine LeO.ite ?_ ?_
   | refine LeO.bind ?_ (fun _ => ?_)
set_option maxHeartbeats 8000000 in
set_option maxRecDepth 100000 in
theorem spec_clAsked.calls (k : Nat) (A0 : Option Addr) (c0 : Nat) (l0 : List (S102)) (A1 : Option Addr) (c1 : Nat) (l1 : List (S85)) (r : Bool) (w : World) (hr0 : Kd.C k102 w A0 l0.length l0) (hc0 : l0.length ≤ c0) (hr1 : Kd.C k85 w A1 l1.length l1) (hc1 : l1.length ≤ c1) (h : spec_clAsked.f k l0 l1 = some r) :
  Calls Try.prog 89 #[.slice A0 l0.length c0,.slice A1 l1.length c1] w fun e w' => e = .returned (.bool r) ∧ Below w.heap.size w w':=by
 have HR0:=Aside0.mk hr0
 have HC0:=Aside0.mk hc0
 clear hr0 hc0
 have HR1:=Aside0.mk hr1
 have HC1:=Aside0.mk hc1
 clear hr1 hc1
 have HB:=Aside0.mk (Below.refl w.heap.size w)
 have H : ((spec_clGood.f k l0).bind fun t186 => (if t186 = true then ((spec_ntGood.f k l1).bind fun t187 => (some t187)) else (some false))) = some r:=h
 clear h
 replace H:=Option.bind_eq_some_iff.mp H
 obtain ⟨t186,A30,H⟩:=H
 replace H : (if t186 = true then ((spec_ntGood.f k l1).bind fun t187 => (some t187)) else (some false)) = some r:=H
 have A3:=Aside0.mk A30
 clear A30
 by_cases c4 : t186 = true
 ·
  subst c4;have H1 : ((spec_ntGood.f k l1).bind fun t187 => (some t187)) = some r:=by rw [if_pos rfl] at H;exact H
  clear H;have H:=H1;clear H1;replace H:=Option.bind_eq_some_iff.mp H;obtain ⟨t187,A50,H⟩:=H;replace H : (some t187) = some r:=H;have A5:=Aside0.mk A50;clear A50;obtain rfl:=Option.some.inj H;go_enter Try.func89,Try.ntmps89;go_wp2_with (first|((with_reducible refine gate_callee (f:=148) rfl ?_);refine goesL_ (some 6) rfl rfl Try.func148 (by kernel_rfl) rfl #[.slice A0 l0.length c0] rfl (by (try simp only [List.map_toArray,List.map_cons,List.map_nil]);first|done|rfl|(simp only [List.length_drop,List.length_take];rfl)) ?_;(with_reducible refine (spec_clGood.calls k _ _ l0 true _ ?side1 ?side2 A3.out).mono ?_);(case side1 => repeat (first|exact HR0.out|(with_reducible refine Kd.C_alloc ?_ _)|(with_reducible refine Kd.C_drewN ?_ _)|(with_reducible refine Kd.C_drew ?_)));(case side2 => exact HC0.out);rintro e w6 ⟨rfl,hb⟩;refine ⟨_,rfl,?_⟩;have n0_:=Aside0.mk (below_step (by repeat (first|(with_reducible first|exact HB.out|apply below_alloc|apply pw_below_drewN|apply below_drew1)|exact HB.out)) hb);clear HB;have HB:=n0_;clear n0_;(try clear hb);(try clear hb2);(try clear hk);(try clear hi))|(go_at_call 108;(with_reducible refine (spec_ntGood.calls k _ _ l1 t187 _ ?side1 ?side2 A5.out).mono ?_);(case side1 => repeat (first|exact (Kd.C_below HR1.out HB.out)|(with_reducible refine Kd.C_alloc ?_ _)|(with_reducible refine Kd.C_drewN ?_ _)|(with_reducible refine Kd.C_drew ?_)));(case side2 => exact HC1.out);rintro e w7 ⟨rfl,hb⟩;have n0_:=Aside0.mk (below_step (by repeat (first|(with_reducible first|exact HB.out|apply below_alloc|apply pw_below_drewN|apply below_drew1)|exact HB.out)) hb);clear HB;have HB:=n0_;clear n0_;(try clear hb);(try clear hb2);(try clear hk);(try clear hi)))
  go_ret
  exact ⟨by first|rfl|(simp [errW_none,errW_some] <;> rfl)|(simp [*,errW_none,errW_some] <;> rfl),by repeat (first|(with_reducible first|exact HB.out|apply below_alloc|apply pw_below_drewN|apply below_drew1)|exact HB.out)⟩
 ·
  replace c4:=Bool.eq_false_iff.mpr c4
  subst c4;have H1 : (some false) = some r:=by rw [if_neg (show ¬ (false = true) by decide)] at H;exact H
  clear H;have H:=H1;clear H1;obtain rfl:=Option.some.inj H;go_enter Try.func89,Try.ntmps89;go_wp2_with (first|((with_reducible refine gate_callee (f:=148) rfl ?_);refine goesL_ (some 6) rfl rfl Try.func148 (by kernel_rfl) rfl #[.slice A0 l0.length c0] rfl (by (try simp only [List.map_toArray,List.map_cons,List.map_nil]);first|done|rfl|(simp only [List.length_drop,List.length_take];rfl)) ?_;(with_reducible refine (spec_clGood.calls k _ _ l0 false _ ?side1 ?side2 A3.out).mono ?_);(case side1 => repeat (first|exact HR0.out|(with_reducible refine Kd.C_alloc ?_ _)|(with_reducible refine Kd.C_drewN ?_ _)|(with_reducible refine Kd.C_drew ?_)));(case side2 => exact HC0.out);rintro e w8 ⟨rfl,hb⟩;refine ⟨_,rfl,?_⟩;have n0_:=Aside0.mk (below_step (by repeat (first|(with_reducible first|exact HB.out|apply below_alloc|apply pw_below_drewN|apply below_drew1)|exact HB.out)) hb);clear HB;have HB:=n0_;clear n0_;(try clear hb);(try clear hb2);(try clear hk);(try clear hi)))
  go_ret
  exact ⟨by first|rfl|(simp [errW_none,errW_some] <;> rfl)|(simp [*,errW_none,errW_some] <;> rfl),by repeat (first|(with_reducible first|exact HB.out|apply below_alloc|apply pw_below_drewN|apply below_drew1)|exact HB.out)⟩

def spec_inTrack.l0 : Nat → Int → List Int → Int → Int → Option (Int)
 | 0,_,_,_,_ => none
 | k + 1,x1,x8,x9,x10 => if x10 < x9 then (if 0 ≤ x10 then (if x10 < (x8.length : Int) then (if (rd x8 x10) = x1 then (some x10) else (spec_inTrack.l0 k x1 x8 x9 (wrap64 (x10 + 1)))) else (none)) else (none)) else (some (-1))
def spec_inTrack.f (k : Nat) (l0_0 : List Int) (a0_1 : Int) (a1 : Int) : Option (Int):=spec_inTrack.l0 k a1 l0_0 (l0_0.length : Int) 0
theorem spec_inTrack.mono_l : ∀ k,(∀ y0 y1 y2 y3,LeO (spec_inTrack.l0 k y0 y1 y2 y3) (spec_inTrack.l0 (k + 1) y0 y1 y2 y3))
 | 0 => fun _ _ _ _ r h => by simp [spec_inTrack.l0] at h
 | k + 1 => by
  have ih0:=spec_inTrack.mono_l k
  ·
   intro y0 y1 y2 y3
   unfold spec_inTrack.l0
   repeat' first
   | (with_reducible exact ih0 _ _ _ _)
   | (with_reducible exact LeO.refl _)
   | (with_reducible exact LeO.none _)
   | (with_reducible refine LeO.ite ?_ ?_)
   | (with_reducible refine LeO.bind ?_ (fun _ => ?_))
   | exact ih0 _ _ _ _
   | exact LeO.none _
   | refine LeO.ite ?_ ?_
   | refine LeO.bind ?_ (fun _ => ?_)
theorem spec_inTrack.mono : ∀ a0 a1 a2 k,LeO (spec_inTrack.f k a0 a1 a2) (spec_inTrack.f (k + 1) a0 a1 a2):=by
 intro a0 a1 a2 k
 have ih0:=spec_inTrack.mono_l k
 unfold spec_inTrack.f
 repeat' first
   | (with_reducible exact ih0 _ _ _ _)
   | (with_reducible exact LeO.refl _)
   | (with_reducible exact LeO.none _)
   | (with_reducible refine LeO.ite ?_ ?_)
   | (with_reducible refine LeO.bind ?_ (fun _ => ?_))
   | exact ih0 _ _ _ _
   | exact LeO.none _
   | refine LeO.ite ?_ ?_
   | refine LeO.bind ?_ (fun _ => ?_)
set_option maxHeartbeats 8000000 in
set_option maxRecDepth 100000 in
theorem spec_inTrack.calls (k : Nat) (A0_0 : Option Addr) (c0_0 : Nat) (l0_0 : List Int) (a0_1 : Int) (a1 : Int) (r : Int) (w : World) (hr0_0 : Kd.C (Kd.int .i64) w A0_0 l0_0.length l0_0) (hc0_0 : l0_0.length ≤ c0_0) (h : spec_inTrack.f k l0_0 a0_1 a1 = some r) :
  Calls Try.prog 150 #[.agg #[.slice A0_0 l0_0.length c0_0,.int .i64 a0_1],.int .i64 a1] w fun e w' => e = .returned (.int .i64 r) ∧ Below w.heap.size w w':=by
 have hu102:=Try.underlying102
 have HR0_0:=Aside0.mk hr0_0
 have HC0_0:=Aside0.mk hc0_0
 clear hr0_0 hc0_0
 have HB:=Aside0.mk (Below.refl w.heap.size w)
 have H : (spec_inTrack.l0 k a1 l0_0 (l0_0.length : Int) 0) = some r:=h
 clear h
 have H':=Aside0.mk H
 clear H
 go_enter Try.func150,Try.ntmps150
 go_wp2_with (first|((with_reducible refine gate_dst (N:=2) rfl ?_);refine box_event ?hg (N:=2) ?hd (cs:=#[.slice A0_0 l0_0.length c0_0,.int .i64 a0_1]) (t:=102) ?hr ?_;(case hd => rfl);(case hg => rfl);(case hr => first|(go_simp;done)|(go_simp;rfl));intro gb188 hg w3 hbox hb;have n0_:=Aside0.mk (below_step (by repeat (first|(with_reducible first|exact HB.out|apply below_alloc|apply pw_below_drewN|apply below_drew1)|exact HB.out)) hb);have n1_:=Aside0.mk (hbox);have n2_:=Aside0.mk ((by rw [hg];exact (below_size (by repeat (first|(with_reducible first|exact HB.out|apply below_alloc|apply pw_below_drewN|apply below_drew1)|exact HB.out))) : w.heap.size ≤ gb188));have n3_:=Aside0.mk ((by rw [hg];exact (below_size (by repeat (first|(with_reducible first|exact HB.out|apply below_alloc|apply pw_below_drewN|apply below_drew1)|exact HB.out))) : w.heap.size ≤ gb188));clear HB;have HB:=n0_;have BK188:=n1_;have GW188:=n2_;have GE188:=n3_;clear n0_ n1_ n2_ n3_;clear hb hbox hg;have hcz4_0 : w3.cell? ⟨gb188,0,none⟩ = some (.slice A0_0 l0_0.length c0_0):=(blk_cell BK188.out 0).trans rfl;have hcz4_1 : w3.cell? ⟨gb188,1,none⟩ = some (.int .i64 a0_1):=(blk_cell BK188.out 1).trans rfl;have hfz4_0:=blk_frozen BK188.out 0;have hfz4_1:=blk_frozen BK188.out 1))
 go_loopg [10] k (fun kq v10 w' => ∃ (x10_1 : Int),v10 = .int .i64 x10_1 ∧ Aside0 (spec_inTrack.l0 kq a1 l0_0 (l0_0.length : Int) x10_1 = some r) ∧ Aside0 (kq ≤ k) ∧ Aside0 (w'.heap[gb188]? = some (.cells #[(.slice A0_0 l0_0.length c0_0),.int .i64 a0_1] 102 (0,0))) ∧ Aside0 (Below w.heap.size w w'))
 case atStart => exact ⟨(0),(by first|rfl|(simp;done)|(simp [*];done)),H',⟨Nat.le_refl _⟩,⟨by (with_reducible repeat (first|refine blk_drewN ?_ _|refine blk_drew ?_|refine blk_alloc ?_ _));exact BK188.out⟩,⟨by repeat (first|(with_reducible first|exact HB.out|apply below_alloc|apply pw_below_drewN|apply below_drew1|refine below_set ?_ GE188.out)|exact HB.out)⟩⟩
 case round =>
  clear H';try clear c1
  try clear p2
  try clear hcz4_0
  try clear hcz4_1
  try clear hfz4_0
  try clear hfz4_1
  obtain ⟨x10_1,rfl,HA,HK1,BK188,HB⟩:=hrel
  cases gk with
  | zero => exact absurd HA.out (by simp [spec_inTrack.l0])
  | succ k1 =>
   have H:=HA.out
   clear HA;simp only [spec_inTrack.l0] at H;by_cases c5 : x10_1 < (l0_0.length : Int)
   ·
    rw [if_pos c5] at H
    have c5b0 : decide (x10_1 < (l0_0.length : Int)) = true:=decide_eq_true c5
    clear c5;by_cases c6 : 0 ≤ x10_1
    ·
     rw [if_pos c6] at H
     have c6b0 : decide (0 ≤ x10_1) = true:=decide_eq_true c6
     clear c6;by_cases c7 : x10_1 < (l0_0.length : Int)
     ·
      rw [if_pos c7] at H
      have c7b0 : decide (x10_1 < (l0_0.length : Int)) = true:=decide_eq_true c7
      clear c7;by_cases c8 : (rd l0_0 x10_1) = a1
      ·
       rw [if_pos c8] at H
       have c8b0 : ((rd l0_0 x10_1) == a1) = true:=beq_iff_eq.mpr c8
       have c8b1 : ((rd l0_0 x10_1) != a1) = false:=bne_eq_false_iff_eq.mpr c8
       clear c8;obtain rfl:=Option.some.inj H;have p189 : 0 ≤ (x10_1 : Int):=of_decide_eq_true (by assumption)
       have q189 : x10_1 < (l0_0.length : Int):=of_decide_eq_true (by assumption)
       obtain ⟨ad189,e189,hx189_0⟩:=Kd.at_int HR0_0.out x10_1 p189 q189;cases e189;replace hx189_0:=(HB.out.cell (World.block_lt_of_cell? w _ hx189_0)).trans hx189_0;replace p189:=eq_true p189;replace q189:=eq_true q189;go_wp2;go_ret;exact ⟨by first|rfl|(simp [errW_none,errW_some] <;> rfl)|(simp [*,errW_none,errW_some] <;> rfl),by repeat (first|(with_reducible first|exact HB.out|apply below_alloc|apply pw_below_drewN|apply below_drew1|refine below_set ?_ GE188.out)|exact HB.out)⟩
      ·
       rw [if_neg c8] at H
       have c8b0 : ((rd l0_0 x10_1) == a1) = false:=beq_eq_false_iff_ne.mpr c8
       have c8b1 : ((rd l0_0 x10_1) != a1) = true:=bne_iff_ne.mpr c8
       have H':=Aside0.mk H
       clear H;have p189 : 0 ≤ (x10_1 : Int):=of_decide_eq_true (by assumption)
       have q189 : x10_1 < (l0_0.length : Int):=of_decide_eq_true (by assumption)
       obtain ⟨ad189,e189,hx189_0⟩:=Kd.at_int HR0_0.out x10_1 p189 q189;cases e189;replace hx189_0:=(HB.out.cell (World.block_lt_of_cell? w _ hx189_0)).trans hx189_0;replace p189:=eq_true p189;replace q189:=eq_true q189;go_wp2;go_roundg k1
       case measure => have:=HK1.out;omega
       case rel => exact ⟨(wrap64 (x10_1 + 1)),(by first|rfl|(simp;done)|(simp [*];done)),H',⟨by have:=HK1.out;omega⟩,⟨by (with_reducible repeat (first|refine blk_drewN ?_ _|refine blk_drew ?_|refine blk_alloc ?_ _));exact BK188.out⟩,⟨by repeat (first|(with_reducible first|exact HB.out|apply below_alloc|apply pw_below_drewN|apply below_drew1|refine below_set ?_ GE188.out)|exact HB.out)⟩⟩
     ·
      rw [if_neg c7] at H
      exact absurd H (by simp)
    ·
     rw [if_neg c6] at H
     exact absurd H (by simp)
   ·
    rw [if_neg c5] at H
    have c5b0 : decide (x10_1 < (l0_0.length : Int)) = false:=decide_eq_false c5
    clear c5;obtain rfl:=Option.some.inj H;go_wp2;go_ret;exact ⟨by first|rfl|(simp [errW_none,errW_some] <;> rfl)|(simp [*,errW_none,errW_some] <;> rfl),by repeat (first|(with_reducible first|exact HB.out|apply below_alloc|apply pw_below_drewN|apply below_drew1|refine below_set ?_ GE188.out)|exact HB.out)⟩

def spec_l1Put.l0 : Nat → List Int → Int → Int → Option (List Int)
 | 0,_,_,_ => none
 | k + 1,x0,x1,x5 => if x5 < (x0.length : Int) then (if 0 ≤ x5 then (if (rd x0 x5) < x1 then (spec_l1Put.l0 k x0 x1 (wrap64 (x5 + 1))) else (if (rd x0 x5) = x1 then (some x0) else ((some (([] : List Int) : List Int)).bind fun y192 => (if x5 ≤ (x0.length : Int) then ((some (x0.take (x5 : Int).toNat : List Int)).bind fun y195 => (if y192.length + y195.length < 17592186044416 then ((some (y192 ++ y195 : List Int)).bind fun y199 => (if y199.length < 17592186044416 then ((some (y199 ++ [x1] : List Int)).bind fun y202 => ((some (x0.drop (x5 : Int).toNat : List Int)).bind fun y205 => (if y202.length + y205.length < 17592186044416 then (some (y202 ++ y205)) else (none)))) else (none))) else (none))) else (none))))) else (none)) else ((some (([] : List Int) : List Int)).bind fun y212 => (if 0 ≤ x5 then (if x5 ≤ (x0.length : Int) then ((some (x0.take (x5 : Int).toNat : List Int)).bind fun y215 => (if y212.length + y215.length < 17592186044416 then ((some (y212 ++ y215 : List Int)).bind fun y219 => (if y219.length < 17592186044416 then ((some (y219 ++ [x1] : List Int)).bind fun y222 => ((some (x0.drop (x5 : Int).toNat : List Int)).bind fun y225 => (if y222.length + y225.length < 17592186044416 then (some (y222 ++ y225)) else (none)))) else (none))) else (none))) else (none)) else (none)))
def spec_l1Put.f (k : Nat) (l0 : List Int) (a1 : Int) : Option (List Int):=spec_l1Put.l0 k l0 a1 0
theorem spec_l1Put.mono_l : ∀ k,(∀ y0 y1 y2,LeO (spec_l1Put.l0 k y0 y1 y2) (spec_l1Put.l0 (k + 1) y0 y1 y2))
 | 0 => fun _ _ _ r h => by simp [spec_l1Put.l0] at h
 | k + 1 => by
  have ih0:=spec_l1Put.mono_l k
  ·
   intro y0 y1 y2
   unfold spec_l1Put.l0
   repeat' first
   | (with_reducible exact ih0 _ _ _)
   | (with_reducible exact LeO.refl _)
   | (with_reducible exact LeO.none _)
   | (with_reducible refine LeO.ite ?_ ?_)
   | (with_reducible refine LeO.bind ?_ (fun _ => ?_))
   | exact ih0 _ _ _
   | exact LeO.none _
   | refine LeO.ite ?_ ?_
   | refine LeO.bind ?_ (fun _ => ?_)
theorem spec_l1Put.mono : ∀ a0 a1 k,LeO (spec_l1Put.f k a0 a1) (spec_l1Put.f (k + 1) a0 a1):=by
 intro a0 a1 k
 have ih0:=spec_l1Put.mono_l k
 unfold spec_l1Put.f
 repeat' first
   | (with_reducible exact ih0 _ _ _)
   | (with_reducible exact LeO.refl _)
   | (with_reducible exact LeO.none _)
   | (with_reducible refine LeO.ite ?_ ?_)
   | (with_reducible refine LeO.bind ?_ (fun _ => ?_))
   | exact ih0 _ _ _
   | exact LeO.none _
   | refine LeO.ite ?_ ?_
   | refine LeO.bind ?_ (fun _ => ?_)
set_option maxHeartbeats 8000000 in
set_option maxRecDepth 100000 in
theorem spec_l1Put.calls (k : Nat) (P0_ : Nat → Prop) (u9000_ : Value) (l0 : List Int) (a1 : Int) (r : List Int) (w0 w : World) (hB : Below w0.heap.size w0 w) (ho0 : Kd.R (Kd.int .i64) 3 w w0.heap.size P0_ u9000_ l0) (h : spec_l1Put.f k l0 a1 = some r) :
  Calls Try.prog 183 #[u9000_,.int .i64 a1] w fun e w' => ∃ v0_ : Value,e = .returned (v0_) ∧ Kd.R (Kd.int .i64) 3 w' w0.heap.size (fun k_ => (P0_ k_ ∨ w.heap.size ≤ k_)) v0_ r ∧ Below w0.heap.size w0 w' ∧ Kept w w' (fun k_ => P0_ k_):=by
 have HO0:=Aside0.mk (show Kd.R (Kd.int .i64) 3 w w0.heap.size (fun k_ => (P0_ k_ ∨ w.heap.size ≤ k_)) u9000_ l0 from Kd.R_mono ho0 (fun k_ hk => (.inl hk)))
 have HK:=Aside0.mk (Kept.refl w (fun k_ => P0_ k_))
 have HW0:=Aside0.mk hB.size
 have HB:=Aside0.mk hB
 clear hB
 have H : (spec_l1Put.l0 k l0 a1 0) = some r:=h
 clear h
 have H':=Aside0.mk H
 clear H
 go_enter Try.func183,Try.ntmps183
 go_wp2
 go_loopg [5] k (fun kq v5 w' => ∃ (x5_1 : Int),v5 = .int .i64 x5_1 ∧ Aside0 (spec_l1Put.l0 kq l0 a1 x5_1 = some r) ∧ Aside0 (kq ≤ k) ∧ Aside0 (Kd.R (Kd.int .i64) 3 w' w0.heap.size (fun k_ => (P0_ k_ ∨ w.heap.size ≤ k_)) u9000_ l0) ∧ Aside0 (Kept w w' (fun k_ => P0_ k_)) ∧ Aside0 (Below w0.heap.size w0 w'))
 case atStart => exact ⟨(0),(by first|rfl|(simp;done)|(simp [*];done)),H',⟨Nat.le_refl _⟩,⟨by (with_reducible repeat (first|apply Kd.R_alloc|apply Kd.R_drewN|apply Kd.R_drew));exact HO0.out⟩,⟨by repeat (first|(with_reducible first|exact HK.out|apply Kept.alloc|apply Kept.drewN|apply Kept.drew)|exact HK.out)⟩,⟨by repeat (first|(with_reducible first|exact HB.out|apply below_alloc|apply pw_below_drewN|apply below_drew1)|exact HB.out)⟩⟩
 case round =>
  clear H';try clear c1
  try clear p2
  obtain ⟨x5_1,rfl,HA,HK1,HO_0,HK,HB⟩:=hrel
  cases gk with
  | zero => exact absurd HA.out (by simp [spec_l1Put.l0])
  | succ k1 =>
   have H:=HA.out
   clear HA;simp only [spec_l1Put.l0] at H;by_cases c3 : x5_1 < (l0.length : Int)
   ·
    rw [if_pos c3] at H
    have c3b0 : decide (x5_1 < (l0.length : Int)) = true:=decide_eq_true c3
    clear c3;by_cases c4 : 0 ≤ x5_1
    ·
     rw [if_pos c4] at H
     have c4b0 : decide (0 ≤ x5_1) = true:=decide_eq_true c4
     clear c4;by_cases c5 : (rd l0 x5_1) < a1
     ·
      rw [if_pos c5] at H
      have c5b0 : decide ((rd l0 x5_1) < a1) = true:=decide_eq_true c5
      clear c5;have H':=Aside0.mk H;clear H;obtain ⟨Ao6,co6,eo6⟩:=Kd.R_slice HO_0.out;subst eo6;have p190 : 0 ≤ (x5_1 : Int):=of_decide_eq_true (by assumption)
      have q190 : x5_1 < (l0.length : Int):=of_decide_eq_true (by assumption)
      obtain ⟨ad190,e190,hx190_0⟩:=Kd.at_int (Kd.R_reads' HO_0.out).2.2 x5_1 p190 q190;cases e190;replace p190:=eq_true p190;replace q190:=eq_true q190;go_wp2;go_roundg k1
      case measure => have:=HK1.out;omega
      case rel => exact ⟨(wrap64 (x5_1 + 1)),(by first|rfl|(simp;done)|(simp [*];done)),H',⟨by have:=HK1.out;omega⟩,⟨by (with_reducible repeat (first|apply Kd.R_alloc|apply Kd.R_drewN|apply Kd.R_drew));exact HO_0.out⟩,⟨by repeat (first|(with_reducible first|exact HK.out|apply Kept.alloc|apply Kept.drewN|apply Kept.drew)|exact HK.out)⟩,⟨by repeat (first|(with_reducible first|exact HB.out|apply below_alloc|apply pw_below_drewN|apply below_drew1)|exact HB.out)⟩⟩
     ·
      rw [if_neg c5] at H
      have c5b0 : decide ((rd l0 x5_1) < a1) = false:=decide_eq_false c5
      clear c5;by_cases c7 : (rd l0 x5_1) = a1
      ·
       rw [if_pos c7] at H
       have c7b0 : ((rd l0 x5_1) == a1) = true:=beq_iff_eq.mpr c7
       have c7b1 : ((rd l0 x5_1) != a1) = false:=bne_eq_false_iff_eq.mpr c7
       clear c7;obtain rfl:=Option.some.inj H;obtain ⟨Ao8,co8,eo8⟩:=Kd.R_slice HO_0.out;subst eo8;have p190 : 0 ≤ (x5_1 : Int):=of_decide_eq_true (by assumption)
       have q190 : x5_1 < (l0.length : Int):=of_decide_eq_true (by assumption)
       obtain ⟨ad190,e190,hx190_0⟩:=Kd.at_int (Kd.R_reads' HO_0.out).2.2 x5_1 p190 q190;cases e190;replace p190:=eq_true p190;replace q190:=eq_true q190;have p191 : 0 ≤ (x5_1 : Int):=of_decide_eq_true (by assumption)
       have q191 : x5_1 < (l0.length : Int):=of_decide_eq_true (by assumption)
       obtain ⟨ad191,e191,hx191_0⟩:=Kd.at_int (Kd.R_reads' HO_0.out).2.2 x5_1 p191 q191;obtain rfl : ad190 = ad191:=(by injection e191)
       replace p191:=eq_true p191;replace q191:=eq_true q191;go_wp2;go_ret;exact ⟨_,by first|rfl|(simp [errW_none,errW_some] <;> rfl)|(simp [*,errW_none,errW_some] <;> rfl),by (with_reducible repeat (first|apply Kd.R_alloc|apply Kd.R_drewN|apply Kd.R_drew));exact HO_0.out,by repeat (first|(with_reducible first|exact HB.out|apply below_alloc|apply pw_below_drewN|apply below_drew1)|exact HB.out),by repeat (first|(with_reducible first|exact HK.out|apply Kept.alloc|apply Kept.drewN|apply Kept.drew)|exact HK.out)⟩
      ·
       rw [if_neg c7] at H
       have c7b0 : ((rd l0 x5_1) == a1) = false:=beq_eq_false_iff_ne.mpr c7
       have c7b1 : ((rd l0 x5_1) != a1) = true:=bne_iff_ne.mpr c7
       obtain ⟨y192,hy192⟩ : ∃ y_ : List Int,y_ = (([] : List Int)):=⟨_,rfl⟩
       replace H : (if x5_1 ≤ (l0.length : Int) then ((some (l0.take (x5_1 : Int).toNat : List Int)).bind fun y195 => (if y192.length + y195.length < 17592186044416 then ((some (y192 ++ y195 : List Int)).bind fun y199 => (if y199.length < 17592186044416 then ((some (y199 ++ [a1] : List Int)).bind fun y202 => ((some (l0.drop (x5_1 : Int).toNat : List Int)).bind fun y205 => (if y202.length + y205.length < 17592186044416 then (some (y202 ++ y205)) else (none)))) else (none))) else (none))) else (none)) = some r:=by first|(rw [hy192];exact H)|(have H2_:=(Option.bind_some _ _).symm.trans H;rw [hy192];exact H2_)|exact (Option.bind_some _ _).symm.trans H|exact H
       have Ny192:=Aside0.mk hy192;clear hy192;have c9b0:=eq_true (of_decide_eq_true (by assumption) : 0 ≤ x5_1)
       by_cases c10 : x5_1 ≤ (l0.length : Int)
       ·
        rw [if_pos c10] at H
        have c10b0:=eq_true c10
        have c10b1 : decide (x5_1 ≤ (l0.length : Int)) = true:=decide_eq_true c10
        clear c10;obtain ⟨y195,hy195⟩ : ∃ y_ : List Int,y_ = (l0.take (x5_1 : Int).toNat):=⟨_,rfl⟩;replace H : (if y192.length + y195.length < 17592186044416 then ((some (y192 ++ y195 : List Int)).bind fun y199 => (if y199.length < 17592186044416 then ((some (y199 ++ [a1] : List Int)).bind fun y202 => ((some (l0.drop (x5_1 : Int).toNat : List Int)).bind fun y205 => (if y202.length + y205.length < 17592186044416 then (some (y202 ++ y205)) else (none)))) else (none))) else (none)) = some r:=by first|(rw [hy195];exact H)|(have H2_:=(Option.bind_some _ _).symm.trans H;rw [hy195];exact H2_)|exact (Option.bind_some _ _).symm.trans H|exact H
        have Ny195:=Aside0.mk hy195;clear hy195;by_cases c11 : y192.length + y195.length < 17592186044416
        ·
         rw [if_pos c11] at H
         have LMc11:=Aside0.mk c11;clear c11;obtain ⟨y199,hy199⟩ : ∃ y_ : List Int,y_ = (y192 ++ y195):=⟨_,rfl⟩;replace H : (if y199.length < 17592186044416 then ((some (y199 ++ [a1] : List Int)).bind fun y202 => ((some (l0.drop (x5_1 : Int).toNat : List Int)).bind fun y205 => (if y202.length + y205.length < 17592186044416 then (some (y202 ++ y205)) else (none)))) else (none)) = some r:=by first|(rw [hy199];exact H)|(have H2_:=(Option.bind_some _ _).symm.trans H;rw [hy199];exact H2_)|exact (Option.bind_some _ _).symm.trans H|exact H
         have Ny199:=Aside0.mk hy199;clear hy199;by_cases c12 : y199.length < 17592186044416
         ·
          rw [if_pos c12] at H
          have LMc12:=Aside0.mk c12;clear c12;obtain ⟨y202,hy202⟩ : ∃ y_ : List Int,y_ = (y199 ++ [a1]):=⟨_,rfl⟩;replace H : ((some (l0.drop (x5_1 : Int).toNat : List Int)).bind fun y205 => (if y202.length + y205.length < 17592186044416 then (some (y202 ++ y205)) else (none))) = some r:=by first|(rw [hy202];exact H)|(have H2_:=(Option.bind_some _ _).symm.trans H;rw [hy202];exact H2_)|exact (Option.bind_some _ _).symm.trans H|exact H
          have Ny202:=Aside0.mk hy202;clear hy202;have c13b0:=eq_true (of_decide_eq_true (by assumption) : 0 ≤ x5_1)
          have c14b0:=eq_true (of_decide_eq_true (by assumption) : x5_1 ≤ (l0.length : Int))
          obtain ⟨y205,hy205⟩ : ∃ y_ : List Int,y_ = (l0.drop (x5_1 : Int).toNat):=⟨_,rfl⟩
          replace H : (if y202.length + y205.length < 17592186044416 then (some (y202 ++ y205)) else (none)) = some r:=by first|(rw [hy205];exact H)|(have H2_:=(Option.bind_some _ _).symm.trans H;rw [hy205];exact H2_)|exact (Option.bind_some _ _).symm.trans H|exact H
          have Ny205:=Aside0.mk hy205;clear hy205;by_cases c15 : y202.length + y205.length < 17592186044416
          ·
           rw [if_pos c15] at H
           have LMc15:=Aside0.mk c15;clear c15;obtain ⟨y209,hy209⟩ : ∃ y_ : List Int,y_ = (y202 ++ y205):=⟨_,rfl⟩;replace H : (some y209) = some r:=by first|(rw [hy209];exact H)|(have H2_:=(Option.bind_some _ _).symm.trans H;rw [hy209];exact H2_)|exact (Option.bind_some _ _).symm.trans H|exact H
           have Ny209:=Aside0.mk hy209;clear hy209;obtain rfl:=Option.some.inj H;obtain ⟨Ao16,co16,eo16⟩:=Kd.R_slice HO_0.out;subst eo16;have p190 : 0 ≤ (x5_1 : Int):=of_decide_eq_true (by assumption)
           have q190 : x5_1 < (l0.length : Int):=of_decide_eq_true (by assumption)
           obtain ⟨ad190,e190,hx190_0⟩:=Kd.at_int (Kd.R_reads' HO_0.out).2.2 x5_1 p190 q190;cases e190;replace p190:=eq_true p190;replace q190:=eq_true q190;have p191 : 0 ≤ (x5_1 : Int):=of_decide_eq_true (by assumption)
           have q191 : x5_1 < (l0.length : Int):=of_decide_eq_true (by assumption)
           obtain ⟨ad191,e191,hx191_0⟩:=Kd.at_int (Kd.R_reads' HO_0.out).2.2 x5_1 p191 q191;obtain rfl : ad190 = ad191:=(by injection e191)
           replace p191:=eq_true p191;replace q191:=eq_true q191;go_wp2_with (first|((with_reducible refine gate_dst (N:=34) rfl ?_);refine Kd.R_lit (Kd.int .i64) _ 3 ?hg (N:=34) ?hd (xs:=([] : List Int)) (inner:=[]) (ok:=fun _ => True) (okp:=fun _ => True) ?hr ?hp (fun _ hk => hk) trivial (Below.refl _ _) (Nat.le_refl _) (by simp) ?_;(case hd => rfl);(case hg => rfl);(case hr => first|(go_simp;done)|(go_simp;rfl));(case hp => exact (Reps.none _ _));intro v193 w17 ho18 hb hg_ hnew_;clear hg_ hnew_;(first|rw [← Ny192.out] at ho18|(simp only [Int.reduceToNat] at ho18;rw [← Ny192.out] at ho18));have n0_:=Aside0.mk (Kd.R_elder' (by (with_reducible repeat (first|apply Kd.R_alloc|apply Kd.R_drewN|apply Kd.R_drew));exact HO_0.out) (Kd.R_base ho18) hb);have n1_:=Aside0.mk (Kd.R_lower (Kd.R_new' (Kd.R_newM (M:=fun k_ => (P0_ k_ ∨ w.heap.size ≤ k_)) ho18 (by first|exact HK.out.1|exact (show Kept w _ (fun k_ => P0_ k_) from by repeat (first|(with_reducible first|exact HK.out|apply Kept.alloc|apply Kept.drewN|apply Kept.drew)|exact HK.out)).1) (fun k_ h_ => .inr h_)) (Kd.R_lt (by (with_reducible repeat (first|apply Kd.R_alloc|apply Kd.R_drewN|apply Kd.R_drew));exact HO_0.out))) (below_size (by repeat (first|(with_reducible first|exact HB.out|apply below_alloc|apply pw_below_drewN|apply below_drew1)|exact HB.out))));have n2_:=Aside0.mk (Kept.below (S:=(fun k_ => P0_ k_)) (by repeat (first|(with_reducible first|exact HK.out|apply Kept.alloc|apply Kept.drewN|apply Kept.drew)|exact HK.out)) hb);have n3_:=Aside0.mk (below_step (by repeat (first|(with_reducible first|exact HB.out|apply below_alloc|apply pw_below_drewN|apply below_drew1)|exact HB.out)) hb);clear HO_0;clear HK;clear HB;have HO_0:=n0_;have HO194:=n1_;have HK:=n2_;have HB:=n3_;clear n0_ n1_ n2_ n3_;clear hb ho18;have q19 : (x5_1 : Int) ≤ ((l0.length : Int) : Int):=of_decide_eq_true (by assumption);obtain ⟨i019,hi019,_,hsz19,_⟩:=info_parts info3;have hroom19 : l0.length ≤ co16:=(Kd.R_reads' HO_0.out).2.1;have hC19 : Kd.C (Kd.int .i64) _ (some ad190) l0.length l0:=(Kd.R_reads' HO_0.out).2.2;have hcut19:=cut_to (P:=Try.prog) 24 3 .i64 Try.underlying24 hi019 (some ad190) l0.length co16 x5_1 (of_decide_eq_true (by assumption)) q19 hroom19;have hr19:=Kd.C_take (m:=(x5_1 : Int).toNat) hC19 (by omega);have hy19 : y195.length = (x5_1 : Int).toNat:=(by rw [Ny195.out,List.length_take];omega);rw [← Ny195.out] at hr19;rw [← hy19] at hcut19;have HR198:=Aside0.mk hr19;have HC198:=Aside0.mk (show y195.length ≤ co16 from by omega);clear hr19 hC19 hroom19 hi019 hsz19;have KY19:=Aside0.mk hy19;clear hy19;have KL19:=Aside0.mk (show (x5_1 : Int).toNat ≤ l0.length from by omega);replace q19:=eq_true q19)|((with_reducible refine gate_builtin (b:=.append) (xs:=#[.tmp 34,.tmp 37]) rfl ?_);at_builtin;refine Kd.R_append_rows (Kd.int .i64) (w0:=w0) w0.heap.size rfl (.tmp 34) (.tmp 37) 24 3 (.int .i64 0) 8 rfl Try.underlying24 info3 rfl (by decide) (by omega) v193 y192 y195 _ _ _ (fun k_ => (P0_ k_ ∨ w.heap.size ≤ k_) ∧ some k_ ≠ (.slice (some ad190) l0.length co16 : Value).ownBlock) (fun _ => False) rfl rfl ?aO ?aR (fun _ _ h => h) (fun _ h => h.elim) ?aF ?aB ?aS ?aL ?_;(case aR => repeat (first|exact (by repeat (first|(with_reducible exact HR198.out)|(with_reducible refine Kd.C_alloc ?_ _)|(with_reducible refine Kd.C_drewN ?_ _)|(with_reducible refine Kd.C_drew ?_)|exact HR198.out))|(with_reducible refine Kd.C_alloc ?_ _)|(with_reducible refine Kd.C_drewN ?_ _)|(with_reducible refine Kd.C_drew ?_)));(case aB => exact (by repeat (first|(with_reducible first|exact HB.out|apply below_alloc|apply pw_below_drewN|apply below_drew1)|exact HB.out)));(case aF => exact (fun k_ hk => ⟨(.inr (Nat.le_trans (by first|exact HK.out.1|exact (show Kept w _ (fun k_ => P0_ k_) from by repeat (first|(with_reducible first|exact HK.out|apply Kept.alloc|apply Kept.drewN|apply Kept.drew)|exact HK.out)).1) hk)),Kd.fresh' (Kd.R_lt (by (with_reducible repeat (first|apply Kd.R_alloc|apply Kd.R_drewN|apply Kd.R_drew));exact HO_0.out)) k_ hk⟩));(case aO => exact (by (with_reducible repeat (first|apply Kd.R_alloc|apply Kd.R_drewN|apply Kd.R_drew));exact Kd.R_mono HO194.out (fun _ hk => ⟨hk.1.1,hk.2⟩)));(case aS => exact (below_size (by repeat (first|(with_reducible first|exact HB.out|apply below_alloc|apply pw_below_drewN|apply below_drew1)|exact HB.out))));(case aL => have:=LMc11.out;omega);intro v200 w20 ho hb hg hat;rw [← Ny199.out] at ho;have n0_:=Aside0.mk (Kd.R_after (ok:=(fun k_ => (P0_ k_ ∨ w.heap.size ≤ k_))) (by (with_reducible repeat (first|apply Kd.R_alloc|apply Kd.R_drewN|apply Kd.R_drew));exact HO_0.out) hg hat);have n1_:=Aside0.mk (hb);have n2_:=Aside0.mk (Kept.of_grown (S:=(fun k_ => P0_ k_)) hg (by repeat (first|(with_reducible first|exact HK.out|apply Kept.alloc|apply Kept.drewN|apply Kept.drew)|exact HK.out)) (fun k_ e_ => (HO194.out.1 k_ e_).1.1));have n3_:=Aside0.mk ((show Kd.C (Kd.int .i64) w20 (some ad190) y195.length y195 from by rw [Ny195.out];exact Kd.C_take (m:=(x5_1 : Int).toNat) ((Kd.R_reads' (Kd.R_after (ok:=(fun k_ => (P0_ k_ ∨ w.heap.size ≤ k_))) (by (with_reducible repeat (first|apply Kd.R_alloc|apply Kd.R_drewN|apply Kd.R_drew));exact HO_0.out) hg hat)).2.2) KL19.out));have n4_:=Aside0.mk (ho);clear HO_0;clear HB;clear HK;clear HR198;clear HO194;have HO_0:=n0_;have HB:=n1_;have HK:=n2_;have HR198:=n3_;have HO201:=n4_;clear n0_ n1_ n2_ n3_ n4_;clear ho hb hg hat)|((with_reducible refine gate_builtin (b:=.append) (xs:=#[.tmp 39,.tmp 41]) rfl ?_);at_builtin;refine Kd.R_append (Kd.int .i64) (w0:=w0) w0.heap.size rfl (.tmp 39) (.tmp 41) 24 3 (.int .i64 0) 8 rfl Try.underlying24 info3 rfl (by decide) (by omega) v200 y199 a1 [.int .i64 a1] (fun k_ => (P0_ k_ ∨ w.heap.size ≤ k_) ∧ some k_ ≠ (.slice (some ad190) l0.length co16 : Value).ownBlock) (fun _ => False) rfl rfl ?aP (fun _ hk => hk.elim) ?aF ?aO ?aB ?aS ?aL ?_;(case aP => exact rfl);(case aB => exact (by repeat (first|(with_reducible first|exact HB.out|apply below_alloc|apply pw_below_drewN|apply below_drew1)|exact HB.out)));(case aF => exact (fun k_ hk => ⟨(.inr (Nat.le_trans (by first|exact HK.out.1|exact (show Kept w _ (fun k_ => P0_ k_) from by repeat (first|(with_reducible first|exact HK.out|apply Kept.alloc|apply Kept.drewN|apply Kept.drew)|exact HK.out)).1) hk)),Kd.fresh' (Kd.R_lt (by (with_reducible repeat (first|apply Kd.R_alloc|apply Kd.R_drewN|apply Kd.R_drew));exact HO_0.out)) k_ hk⟩));(case aO => exact (by (with_reducible repeat (first|apply Kd.R_alloc|apply Kd.R_drewN|apply Kd.R_drew));exact HO201.out));(case aS => exact (below_size (by repeat (first|(with_reducible first|exact HB.out|apply below_alloc|apply pw_below_drewN|apply below_drew1)|exact HB.out))));(case aL => have:=LMc12.out;omega);intro v203 w21 ho hb hg hat;rw [← Ny202.out] at ho;have n0_:=Aside0.mk (Kd.R_after (ok:=(fun k_ => (P0_ k_ ∨ w.heap.size ≤ k_))) (by (with_reducible repeat (first|apply Kd.R_alloc|apply Kd.R_drewN|apply Kd.R_drew));exact HO_0.out) hg hat);have n1_:=Aside0.mk (hb);have n2_:=Aside0.mk (Kept.of_grown (S:=(fun k_ => P0_ k_)) hg (by repeat (first|(with_reducible first|exact HK.out|apply Kept.alloc|apply Kept.drewN|apply Kept.drew)|exact HK.out)) (fun k_ e_ => (HO201.out.1 k_ e_).1));have n3_:=Aside0.mk ((show Kd.C (Kd.int .i64) w21 (some ad190) y195.length y195 from by rw [Ny195.out];exact Kd.C_take (m:=(x5_1 : Int).toNat) ((Kd.R_reads' (Kd.R_after (ok:=(fun k_ => (P0_ k_ ∨ w.heap.size ≤ k_))) (by (with_reducible repeat (first|apply Kd.R_alloc|apply Kd.R_drewN|apply Kd.R_drew));exact HO_0.out) hg hat)).2.2) KL19.out));have n4_:=Aside0.mk (ho);clear HO_0;clear HB;clear HK;clear HR198;clear HO201;have HO_0:=n0_;have HB:=n1_;have HK:=n2_;have HR198:=n3_;have HO204:=n4_;clear n0_ n1_ n2_ n3_ n4_;clear ho hb hg hat;have q22 : (x5_1 : Int) ≤ ((l0.length : Int) : Int):=of_decide_eq_true (by assumption);obtain ⟨i022,hi022,_,hsz22,_⟩:=info_parts info3;have hroom22 : l0.length ≤ co16:=(Kd.R_reads' HO_0.out).2.1;have hC22 : Kd.C (Kd.int .i64) _ (some ad190) l0.length l0:=(Kd.R_reads' HO_0.out).2.2;have q022 : (0 : Int) ≤ (x5_1 : Int):=of_decide_eq_true (by assumption);have hcut22:=cut_from (P:=Try.prog) 24 3 .i64 Try.underlying24 hi022 1 hsz22 (some ad190) l0.length co16 x5_1 q022 q22;have hr22:=Kd.C_drop (m:=(x5_1 : Int).toNat) (c:=co16) hC22 (by omega) hroom22;obtain ⟨A22,hA22⟩ : ∃ A1,A1 = (if co16 = (x5_1 : Int).toNat then (some ad190) else ((some ad190) : Option Addr).map (·.add ((x5_1 : Int).toNat * 1))):=⟨_,rfl⟩;obtain ⟨c22,hc22⟩ : ∃ c1,c1 = co16 - (x5_1 : Int).toNat:=⟨_,rfl⟩;have hy22 : y205.length = l0.length - (x5_1 : Int).toNat:=(by rw [Ny205.out,List.length_drop] <;> omega);rw [show (l0).drop (x5_1 : Int).toNat = y205 from Ny205.out.symm] at hr22;replace hr22 : Kd.C (Kd.int .i64) _ A22 y205.length y205:=(by rw [hA22];exact hr22);rw [← hy22,← hA22,← hc22] at hcut22;have HR208:=Aside0.mk hr22;have HC208:=Aside0.mk (show y205.length ≤ c22 from by rw [hy22,hc22];exact Nat.sub_le_sub_right hroom22 _);clear hr22 hC22 hroom22 hi022 hsz22 hc22;have KY22:=Aside0.mk hy22;have KA22:=Aside0.mk hA22;clear hy22 hA22;have KL22:=Aside0.mk (show (x5_1 : Int).toNat ≤ l0.length from by omega);replace q22:=eq_true q22)|((with_reducible refine gate_builtin (b:=.append) (xs:=#[.tmp 43,.tmp 46]) rfl ?_);at_builtin;refine Kd.R_append_rows (Kd.int .i64) (w0:=w0) w0.heap.size rfl (.tmp 43) (.tmp 46) 24 3 (.int .i64 0) 8 rfl Try.underlying24 info3 rfl (by decide) (by omega) v203 y202 y205 _ _ _ (fun k_ => (P0_ k_ ∨ w.heap.size ≤ k_) ∧ some k_ ≠ (.slice (some ad190) l0.length co16 : Value).ownBlock) (fun _ => False) rfl rfl ?aO ?aR (fun _ _ h => h) (fun _ h => h.elim) ?aF ?aB ?aS ?aL ?_;(case aR => repeat (first|exact (by repeat (first|(with_reducible exact HR208.out)|(with_reducible refine Kd.C_alloc ?_ _)|(with_reducible refine Kd.C_drewN ?_ _)|(with_reducible refine Kd.C_drew ?_)|exact HR208.out))|(with_reducible refine Kd.C_alloc ?_ _)|(with_reducible refine Kd.C_drewN ?_ _)|(with_reducible refine Kd.C_drew ?_)));(case aB => exact (by repeat (first|(with_reducible first|exact HB.out|apply below_alloc|apply pw_below_drewN|apply below_drew1)|exact HB.out)));(case aF => exact (fun k_ hk => ⟨(.inr (Nat.le_trans (by first|exact HK.out.1|exact (show Kept w _ (fun k_ => P0_ k_) from by repeat (first|(with_reducible first|exact HK.out|apply Kept.alloc|apply Kept.drewN|apply Kept.drew)|exact HK.out)).1) hk)),Kd.fresh' (Kd.R_lt (by (with_reducible repeat (first|apply Kd.R_alloc|apply Kd.R_drewN|apply Kd.R_drew));exact HO_0.out)) k_ hk⟩));(case aO => exact (by (with_reducible repeat (first|apply Kd.R_alloc|apply Kd.R_drewN|apply Kd.R_drew));exact HO204.out));(case aS => exact (below_size (by repeat (first|(with_reducible first|exact HB.out|apply below_alloc|apply pw_below_drewN|apply below_drew1)|exact HB.out))));(case aL => have:=LMc15.out;omega);intro v210 w23 ho hb hg hat;rw [← Ny209.out] at ho;have n0_:=Aside0.mk (Kd.R_after (ok:=(fun k_ => (P0_ k_ ∨ w.heap.size ≤ k_))) (by (with_reducible repeat (first|apply Kd.R_alloc|apply Kd.R_drewN|apply Kd.R_drew));exact HO_0.out) hg hat);have n1_:=Aside0.mk (hb);have n2_:=Aside0.mk (Kept.of_grown (S:=(fun k_ => P0_ k_)) hg (by repeat (first|(with_reducible first|exact HK.out|apply Kept.alloc|apply Kept.drewN|apply Kept.drew)|exact HK.out)) (fun k_ e_ => (HO204.out.1 k_ e_).1));have n3_:=Aside0.mk ((show Kd.C (Kd.int .i64) w23 (some ad190) y195.length y195 from by rw [Ny195.out];exact Kd.C_take (m:=(x5_1 : Int).toNat) ((Kd.R_reads' (Kd.R_after (ok:=(fun k_ => (P0_ k_ ∨ w.heap.size ≤ k_))) (by (with_reducible repeat (first|apply Kd.R_alloc|apply Kd.R_drewN|apply Kd.R_drew));exact HO_0.out) hg hat)).2.2) KL19.out));have n4_:=Aside0.mk ((show Kd.C (Kd.int .i64) w23 A22 y205.length y205 from by rw [Ny205.out,KA22.out];exact Kd.C_drop (m:=(x5_1 : Int).toNat) (c:=co16) ((Kd.R_reads' (Kd.R_after (ok:=(fun k_ => (P0_ k_ ∨ w.heap.size ≤ k_))) (by (with_reducible repeat (first|apply Kd.R_alloc|apply Kd.R_drewN|apply Kd.R_drew));exact HO_0.out) hg hat)).2.2) KL22.out ((Kd.R_reads' (Kd.R_after (ok:=(fun k_ => (P0_ k_ ∨ w.heap.size ≤ k_))) (by (with_reducible repeat (first|apply Kd.R_alloc|apply Kd.R_drewN|apply Kd.R_drew));exact HO_0.out) hg hat)).2.1)));have n5_:=Aside0.mk (ho);clear HO_0;clear HB;clear HK;clear HR198;clear HR208;clear HO204;have HO_0:=n0_;have HB:=n1_;have HK:=n2_;have HR198:=n3_;have HR208:=n4_;have HO211:=n5_;clear n0_ n1_ n2_ n3_ n4_ n5_;clear ho hb hg hat))
           go_ret
           exact ⟨_,by first|rfl|(simp [errW_none,errW_some] <;> rfl)|(simp [*,errW_none,errW_some] <;> rfl),by (with_reducible repeat (first|apply Kd.R_alloc|apply Kd.R_drewN|apply Kd.R_drew));exact Kd.R_mono HO211.out (fun _ hk => hk.1),by repeat (first|(with_reducible first|exact HB.out|apply below_alloc|apply pw_below_drewN|apply below_drew1)|exact HB.out),by repeat (first|(with_reducible first|exact HK.out|apply Kept.alloc|apply Kept.drewN|apply Kept.drew)|exact HK.out)⟩
          ·
           rw [if_neg c15] at H
           exact absurd H (by simp)
         ·
          rw [if_neg c12] at H
          exact absurd H (by simp)
        ·
         rw [if_neg c11] at H
         exact absurd H (by simp)
       ·
        rw [if_neg c10] at H
        exact absurd H (by simp)
    ·
     rw [if_neg c4] at H
     exact absurd H (by simp)
   ·
    rw [if_neg c3] at H
    have c3b0 : decide (x5_1 < (l0.length : Int)) = false:=decide_eq_false c3
    clear c3;obtain ⟨y212,hy212⟩ : ∃ y_ : List Int,y_ = (([] : List Int)):=⟨_,rfl⟩;replace H : (if 0 ≤ x5_1 then (if x5_1 ≤ (l0.length : Int) then ((some (l0.take (x5_1 : Int).toNat : List Int)).bind fun y215 => (if y212.length + y215.length < 17592186044416 then ((some (y212 ++ y215 : List Int)).bind fun y219 => (if y219.length < 17592186044416 then ((some (y219 ++ [a1] : List Int)).bind fun y222 => ((some (l0.drop (x5_1 : Int).toNat : List Int)).bind fun y225 => (if y222.length + y225.length < 17592186044416 then (some (y222 ++ y225)) else (none)))) else (none))) else (none))) else (none)) else (none)) = some r:=by first|(rw [hy212];exact H)|(have H2_:=(Option.bind_some _ _).symm.trans H;rw [hy212];exact H2_)|exact (Option.bind_some _ _).symm.trans H|exact H
    have Ny212:=Aside0.mk hy212;clear hy212;by_cases c24 : 0 ≤ x5_1
    ·
     rw [if_pos c24] at H
     have c24b0:=eq_true c24
     have c24b1 : decide (0 ≤ x5_1) = true:=decide_eq_true c24
     clear c24;by_cases c25 : x5_1 ≤ (l0.length : Int)
     ·
      rw [if_pos c25] at H
      have c25b0:=eq_true c25
      have c25b1 : decide (x5_1 ≤ (l0.length : Int)) = true:=decide_eq_true c25
      clear c25;obtain ⟨y215,hy215⟩ : ∃ y_ : List Int,y_ = (l0.take (x5_1 : Int).toNat):=⟨_,rfl⟩;replace H : (if y212.length + y215.length < 17592186044416 then ((some (y212 ++ y215 : List Int)).bind fun y219 => (if y219.length < 17592186044416 then ((some (y219 ++ [a1] : List Int)).bind fun y222 => ((some (l0.drop (x5_1 : Int).toNat : List Int)).bind fun y225 => (if y222.length + y225.length < 17592186044416 then (some (y222 ++ y225)) else (none)))) else (none))) else (none)) = some r:=by first|(rw [hy215];exact H)|(have H2_:=(Option.bind_some _ _).symm.trans H;rw [hy215];exact H2_)|exact (Option.bind_some _ _).symm.trans H|exact H
      have Ny215:=Aside0.mk hy215;clear hy215;by_cases c26 : y212.length + y215.length < 17592186044416
      ·
       rw [if_pos c26] at H
       have LMc26:=Aside0.mk c26;clear c26;obtain ⟨y219,hy219⟩ : ∃ y_ : List Int,y_ = (y212 ++ y215):=⟨_,rfl⟩;replace H : (if y219.length < 17592186044416 then ((some (y219 ++ [a1] : List Int)).bind fun y222 => ((some (l0.drop (x5_1 : Int).toNat : List Int)).bind fun y225 => (if y222.length + y225.length < 17592186044416 then (some (y222 ++ y225)) else (none)))) else (none)) = some r:=by first|(rw [hy219];exact H)|(have H2_:=(Option.bind_some _ _).symm.trans H;rw [hy219];exact H2_)|exact (Option.bind_some _ _).symm.trans H|exact H
       have Ny219:=Aside0.mk hy219;clear hy219;by_cases c27 : y219.length < 17592186044416
       ·
        rw [if_pos c27] at H
        have LMc27:=Aside0.mk c27;clear c27;obtain ⟨y222,hy222⟩ : ∃ y_ : List Int,y_ = (y219 ++ [a1]):=⟨_,rfl⟩;replace H : ((some (l0.drop (x5_1 : Int).toNat : List Int)).bind fun y225 => (if y222.length + y225.length < 17592186044416 then (some (y222 ++ y225)) else (none))) = some r:=by first|(rw [hy222];exact H)|(have H2_:=(Option.bind_some _ _).symm.trans H;rw [hy222];exact H2_)|exact (Option.bind_some _ _).symm.trans H|exact H
        have Ny222:=Aside0.mk hy222;clear hy222;have c28b0:=eq_true (of_decide_eq_true (by assumption) : 0 ≤ x5_1)
        have c29b0:=eq_true (of_decide_eq_true (by assumption) : x5_1 ≤ (l0.length : Int))
        obtain ⟨y225,hy225⟩ : ∃ y_ : List Int,y_ = (l0.drop (x5_1 : Int).toNat):=⟨_,rfl⟩
        replace H : (if y222.length + y225.length < 17592186044416 then (some (y222 ++ y225)) else (none)) = some r:=by first|(rw [hy225];exact H)|(have H2_:=(Option.bind_some _ _).symm.trans H;rw [hy225];exact H2_)|exact (Option.bind_some _ _).symm.trans H|exact H
        have Ny225:=Aside0.mk hy225;clear hy225;by_cases c30 : y222.length + y225.length < 17592186044416
        ·
         rw [if_pos c30] at H
         have LMc30:=Aside0.mk c30;clear c30;obtain ⟨y229,hy229⟩ : ∃ y_ : List Int,y_ = (y222 ++ y225):=⟨_,rfl⟩;replace H : (some y229) = some r:=by first|(rw [hy229];exact H)|(have H2_:=(Option.bind_some _ _).symm.trans H;rw [hy229];exact H2_)|exact (Option.bind_some _ _).symm.trans H|exact H
         have Ny229:=Aside0.mk hy229;clear hy229;obtain rfl:=Option.some.inj H;obtain ⟨Ao31,co31,eo31⟩:=Kd.R_slice HO_0.out;subst eo31;go_wp2_with (first|((with_reducible refine gate_dst (N:=34) rfl ?_);refine Kd.R_lit (Kd.int .i64) _ 3 ?hg (N:=34) ?hd (xs:=([] : List Int)) (inner:=[]) (ok:=fun _ => True) (okp:=fun _ => True) ?hr ?hp (fun _ hk => hk) trivial (Below.refl _ _) (Nat.le_refl _) (by simp) ?_;(case hd => rfl);(case hg => rfl);(case hr => first|(go_simp;done)|(go_simp;rfl));(case hp => exact (Reps.none _ _));intro v213 w32 ho33 hb hg_ hnew_;clear hg_ hnew_;(first|rw [← Ny212.out] at ho33|(simp only [Int.reduceToNat] at ho33;rw [← Ny212.out] at ho33));have n0_:=Aside0.mk (Kd.R_elder' (by (with_reducible repeat (first|apply Kd.R_alloc|apply Kd.R_drewN|apply Kd.R_drew));exact HO_0.out) (Kd.R_base ho33) hb);have n1_:=Aside0.mk (Kd.R_lower (Kd.R_new' (Kd.R_newM (M:=fun k_ => (P0_ k_ ∨ w.heap.size ≤ k_)) ho33 (by first|exact HK.out.1|exact (show Kept w _ (fun k_ => P0_ k_) from by repeat (first|(with_reducible first|exact HK.out|apply Kept.alloc|apply Kept.drewN|apply Kept.drew)|exact HK.out)).1) (fun k_ h_ => .inr h_)) (Kd.R_lt (by (with_reducible repeat (first|apply Kd.R_alloc|apply Kd.R_drewN|apply Kd.R_drew));exact HO_0.out))) (below_size (by repeat (first|(with_reducible first|exact HB.out|apply below_alloc|apply pw_below_drewN|apply below_drew1)|exact HB.out))));have n2_:=Aside0.mk (Kept.below (S:=(fun k_ => P0_ k_)) (by repeat (first|(with_reducible first|exact HK.out|apply Kept.alloc|apply Kept.drewN|apply Kept.drew)|exact HK.out)) hb);have n3_:=Aside0.mk (below_step (by repeat (first|(with_reducible first|exact HB.out|apply below_alloc|apply pw_below_drewN|apply below_drew1)|exact HB.out)) hb);clear HO_0;clear HK;clear HB;have HO_0:=n0_;have HO214:=n1_;have HK:=n2_;have HB:=n3_;clear n0_ n1_ n2_ n3_;clear hb ho33;have q34 : (x5_1 : Int) ≤ ((l0.length : Int) : Int):=of_decide_eq_true (by assumption);obtain ⟨i034,hi034,_,hsz34,_⟩:=info_parts info3;have hroom34 : l0.length ≤ co31:=(Kd.R_reads' HO_0.out).2.1;have hC34 : Kd.C (Kd.int .i64) _ Ao31 l0.length l0:=(Kd.R_reads' HO_0.out).2.2;have hcut34:=cut_to (P:=Try.prog) 24 3 .i64 Try.underlying24 hi034 Ao31 l0.length co31 x5_1 (of_decide_eq_true (by assumption)) q34 hroom34;have hr34:=Kd.C_take (m:=(x5_1 : Int).toNat) hC34 (by omega);have hy34 : y215.length = (x5_1 : Int).toNat:=(by rw [Ny215.out,List.length_take];omega);rw [← Ny215.out] at hr34;rw [← hy34] at hcut34;have HR218:=Aside0.mk hr34;have HC218:=Aside0.mk (show y215.length ≤ co31 from by omega);clear hr34 hC34 hroom34 hi034 hsz34;have KY34:=Aside0.mk hy34;clear hy34;have KL34:=Aside0.mk (show (x5_1 : Int).toNat ≤ l0.length from by omega);replace q34:=eq_true q34)|((with_reducible refine gate_builtin (b:=.append) (xs:=#[.tmp 34,.tmp 37]) rfl ?_);at_builtin;refine Kd.R_append_rows (Kd.int .i64) (w0:=w0) w0.heap.size rfl (.tmp 34) (.tmp 37) 24 3 (.int .i64 0) 8 rfl Try.underlying24 info3 rfl (by decide) (by omega) v213 y212 y215 _ _ _ (fun k_ => (P0_ k_ ∨ w.heap.size ≤ k_) ∧ some k_ ≠ (.slice Ao31 l0.length co31 : Value).ownBlock) (fun _ => False) rfl rfl ?aO ?aR (fun _ _ h => h) (fun _ h => h.elim) ?aF ?aB ?aS ?aL ?_;(case aR => repeat (first|exact (by repeat (first|(with_reducible exact HR218.out)|(with_reducible refine Kd.C_alloc ?_ _)|(with_reducible refine Kd.C_drewN ?_ _)|(with_reducible refine Kd.C_drew ?_)|exact HR218.out))|(with_reducible refine Kd.C_alloc ?_ _)|(with_reducible refine Kd.C_drewN ?_ _)|(with_reducible refine Kd.C_drew ?_)));(case aB => exact (by repeat (first|(with_reducible first|exact HB.out|apply below_alloc|apply pw_below_drewN|apply below_drew1)|exact HB.out)));(case aF => exact (fun k_ hk => ⟨(.inr (Nat.le_trans (by first|exact HK.out.1|exact (show Kept w _ (fun k_ => P0_ k_) from by repeat (first|(with_reducible first|exact HK.out|apply Kept.alloc|apply Kept.drewN|apply Kept.drew)|exact HK.out)).1) hk)),Kd.fresh' (Kd.R_lt (by (with_reducible repeat (first|apply Kd.R_alloc|apply Kd.R_drewN|apply Kd.R_drew));exact HO_0.out)) k_ hk⟩));(case aO => exact (by (with_reducible repeat (first|apply Kd.R_alloc|apply Kd.R_drewN|apply Kd.R_drew));exact Kd.R_mono HO214.out (fun _ hk => ⟨hk.1.1,hk.2⟩)));(case aS => exact (below_size (by repeat (first|(with_reducible first|exact HB.out|apply below_alloc|apply pw_below_drewN|apply below_drew1)|exact HB.out))));(case aL => have:=LMc26.out;omega);intro v220 w35 ho hb hg hat;rw [← Ny219.out] at ho;have n0_:=Aside0.mk (Kd.R_after (ok:=(fun k_ => (P0_ k_ ∨ w.heap.size ≤ k_))) (by (with_reducible repeat (first|apply Kd.R_alloc|apply Kd.R_drewN|apply Kd.R_drew));exact HO_0.out) hg hat);have n1_:=Aside0.mk (hb);have n2_:=Aside0.mk (Kept.of_grown (S:=(fun k_ => P0_ k_)) hg (by repeat (first|(with_reducible first|exact HK.out|apply Kept.alloc|apply Kept.drewN|apply Kept.drew)|exact HK.out)) (fun k_ e_ => (HO214.out.1 k_ e_).1.1));have n3_:=Aside0.mk ((show Kd.C (Kd.int .i64) w35 Ao31 y215.length y215 from by rw [Ny215.out];exact Kd.C_take (m:=(x5_1 : Int).toNat) ((Kd.R_reads' (Kd.R_after (ok:=(fun k_ => (P0_ k_ ∨ w.heap.size ≤ k_))) (by (with_reducible repeat (first|apply Kd.R_alloc|apply Kd.R_drewN|apply Kd.R_drew));exact HO_0.out) hg hat)).2.2) KL34.out));have n4_:=Aside0.mk (ho);clear HO_0;clear HB;clear HK;clear HR218;clear HO214;have HO_0:=n0_;have HB:=n1_;have HK:=n2_;have HR218:=n3_;have HO221:=n4_;clear n0_ n1_ n2_ n3_ n4_;clear ho hb hg hat)|((with_reducible refine gate_builtin (b:=.append) (xs:=#[.tmp 39,.tmp 41]) rfl ?_);at_builtin;refine Kd.R_append (Kd.int .i64) (w0:=w0) w0.heap.size rfl (.tmp 39) (.tmp 41) 24 3 (.int .i64 0) 8 rfl Try.underlying24 info3 rfl (by decide) (by omega) v220 y219 a1 [.int .i64 a1] (fun k_ => (P0_ k_ ∨ w.heap.size ≤ k_) ∧ some k_ ≠ (.slice Ao31 l0.length co31 : Value).ownBlock) (fun _ => False) rfl rfl ?aP (fun _ hk => hk.elim) ?aF ?aO ?aB ?aS ?aL ?_;(case aP => exact rfl);(case aB => exact (by repeat (first|(with_reducible first|exact HB.out|apply below_alloc|apply pw_below_drewN|apply below_drew1)|exact HB.out)));(case aF => exact (fun k_ hk => ⟨(.inr (Nat.le_trans (by first|exact HK.out.1|exact (show Kept w _ (fun k_ => P0_ k_) from by repeat (first|(with_reducible first|exact HK.out|apply Kept.alloc|apply Kept.drewN|apply Kept.drew)|exact HK.out)).1) hk)),Kd.fresh' (Kd.R_lt (by (with_reducible repeat (first|apply Kd.R_alloc|apply Kd.R_drewN|apply Kd.R_drew));exact HO_0.out)) k_ hk⟩));(case aO => exact (by (with_reducible repeat (first|apply Kd.R_alloc|apply Kd.R_drewN|apply Kd.R_drew));exact HO221.out));(case aS => exact (below_size (by repeat (first|(with_reducible first|exact HB.out|apply below_alloc|apply pw_below_drewN|apply below_drew1)|exact HB.out))));(case aL => have:=LMc27.out;omega);intro v223 w36 ho hb hg hat;rw [← Ny222.out] at ho;have n0_:=Aside0.mk (Kd.R_after (ok:=(fun k_ => (P0_ k_ ∨ w.heap.size ≤ k_))) (by (with_reducible repeat (first|apply Kd.R_alloc|apply Kd.R_drewN|apply Kd.R_drew));exact HO_0.out) hg hat);have n1_:=Aside0.mk (hb);have n2_:=Aside0.mk (Kept.of_grown (S:=(fun k_ => P0_ k_)) hg (by repeat (first|(with_reducible first|exact HK.out|apply Kept.alloc|apply Kept.drewN|apply Kept.drew)|exact HK.out)) (fun k_ e_ => (HO221.out.1 k_ e_).1));have n3_:=Aside0.mk ((show Kd.C (Kd.int .i64) w36 Ao31 y215.length y215 from by rw [Ny215.out];exact Kd.C_take (m:=(x5_1 : Int).toNat) ((Kd.R_reads' (Kd.R_after (ok:=(fun k_ => (P0_ k_ ∨ w.heap.size ≤ k_))) (by (with_reducible repeat (first|apply Kd.R_alloc|apply Kd.R_drewN|apply Kd.R_drew));exact HO_0.out) hg hat)).2.2) KL34.out));have n4_:=Aside0.mk (ho);clear HO_0;clear HB;clear HK;clear HR218;clear HO221;have HO_0:=n0_;have HB:=n1_;have HK:=n2_;have HR218:=n3_;have HO224:=n4_;clear n0_ n1_ n2_ n3_ n4_;clear ho hb hg hat;have q37 : (x5_1 : Int) ≤ ((l0.length : Int) : Int):=of_decide_eq_true (by assumption);obtain ⟨i037,hi037,_,hsz37,_⟩:=info_parts info3;have hroom37 : l0.length ≤ co31:=(Kd.R_reads' HO_0.out).2.1;have hC37 : Kd.C (Kd.int .i64) _ Ao31 l0.length l0:=(Kd.R_reads' HO_0.out).2.2;have q037 : (0 : Int) ≤ (x5_1 : Int):=of_decide_eq_true (by assumption);have hcut37:=cut_from (P:=Try.prog) 24 3 .i64 Try.underlying24 hi037 1 hsz37 Ao31 l0.length co31 x5_1 q037 q37;have hr37:=Kd.C_drop (m:=(x5_1 : Int).toNat) (c:=co31) hC37 (by omega) hroom37;obtain ⟨A37,hA37⟩ : ∃ A1,A1 = (if co31 = (x5_1 : Int).toNat then Ao31 else (Ao31 : Option Addr).map (·.add ((x5_1 : Int).toNat * 1))):=⟨_,rfl⟩;obtain ⟨c37,hc37⟩ : ∃ c1,c1 = co31 - (x5_1 : Int).toNat:=⟨_,rfl⟩;have hy37 : y225.length = l0.length - (x5_1 : Int).toNat:=(by rw [Ny225.out,List.length_drop] <;> omega);rw [show (l0).drop (x5_1 : Int).toNat = y225 from Ny225.out.symm] at hr37;replace hr37 : Kd.C (Kd.int .i64) _ A37 y225.length y225:=(by rw [hA37];exact hr37);rw [← hy37,← hA37,← hc37] at hcut37;have HR228:=Aside0.mk hr37;have HC228:=Aside0.mk (show y225.length ≤ c37 from by rw [hy37,hc37];exact Nat.sub_le_sub_right hroom37 _);clear hr37 hC37 hroom37 hi037 hsz37 hc37;have KY37:=Aside0.mk hy37;have KA37:=Aside0.mk hA37;clear hy37 hA37;have KL37:=Aside0.mk (show (x5_1 : Int).toNat ≤ l0.length from by omega);replace q37:=eq_true q37)|((with_reducible refine gate_builtin (b:=.append) (xs:=#[.tmp 43,.tmp 46]) rfl ?_);at_builtin;refine Kd.R_append_rows (Kd.int .i64) (w0:=w0) w0.heap.size rfl (.tmp 43) (.tmp 46) 24 3 (.int .i64 0) 8 rfl Try.underlying24 info3 rfl (by decide) (by omega) v223 y222 y225 _ _ _ (fun k_ => (P0_ k_ ∨ w.heap.size ≤ k_) ∧ some k_ ≠ (.slice Ao31 l0.length co31 : Value).ownBlock) (fun _ => False) rfl rfl ?aO ?aR (fun _ _ h => h) (fun _ h => h.elim) ?aF ?aB ?aS ?aL ?_;(case aR => repeat (first|exact (by repeat (first|(with_reducible exact HR228.out)|(with_reducible refine Kd.C_alloc ?_ _)|(with_reducible refine Kd.C_drewN ?_ _)|(with_reducible refine Kd.C_drew ?_)|exact HR228.out))|(with_reducible refine Kd.C_alloc ?_ _)|(with_reducible refine Kd.C_drewN ?_ _)|(with_reducible refine Kd.C_drew ?_)));(case aB => exact (by repeat (first|(with_reducible first|exact HB.out|apply below_alloc|apply pw_below_drewN|apply below_drew1)|exact HB.out)));(case aF => exact (fun k_ hk => ⟨(.inr (Nat.le_trans (by first|exact HK.out.1|exact (show Kept w _ (fun k_ => P0_ k_) from by repeat (first|(with_reducible first|exact HK.out|apply Kept.alloc|apply Kept.drewN|apply Kept.drew)|exact HK.out)).1) hk)),Kd.fresh' (Kd.R_lt (by (with_reducible repeat (first|apply Kd.R_alloc|apply Kd.R_drewN|apply Kd.R_drew));exact HO_0.out)) k_ hk⟩));(case aO => exact (by (with_reducible repeat (first|apply Kd.R_alloc|apply Kd.R_drewN|apply Kd.R_drew));exact HO224.out));(case aS => exact (below_size (by repeat (first|(with_reducible first|exact HB.out|apply below_alloc|apply pw_below_drewN|apply below_drew1)|exact HB.out))));(case aL => have:=LMc30.out;omega);intro v230 w38 ho hb hg hat;rw [← Ny229.out] at ho;have n0_:=Aside0.mk (Kd.R_after (ok:=(fun k_ => (P0_ k_ ∨ w.heap.size ≤ k_))) (by (with_reducible repeat (first|apply Kd.R_alloc|apply Kd.R_drewN|apply Kd.R_drew));exact HO_0.out) hg hat);have n1_:=Aside0.mk (hb);have n2_:=Aside0.mk (Kept.of_grown (S:=(fun k_ => P0_ k_)) hg (by repeat (first|(with_reducible first|exact HK.out|apply Kept.alloc|apply Kept.drewN|apply Kept.drew)|exact HK.out)) (fun k_ e_ => (HO224.out.1 k_ e_).1));have n3_:=Aside0.mk ((show Kd.C (Kd.int .i64) w38 Ao31 y215.length y215 from by rw [Ny215.out];exact Kd.C_take (m:=(x5_1 : Int).toNat) ((Kd.R_reads' (Kd.R_after (ok:=(fun k_ => (P0_ k_ ∨ w.heap.size ≤ k_))) (by (with_reducible repeat (first|apply Kd.R_alloc|apply Kd.R_drewN|apply Kd.R_drew));exact HO_0.out) hg hat)).2.2) KL34.out));have n4_:=Aside0.mk ((show Kd.C (Kd.int .i64) w38 A37 y225.length y225 from by rw [Ny225.out,KA37.out];exact Kd.C_drop (m:=(x5_1 : Int).toNat) (c:=co31) ((Kd.R_reads' (Kd.R_after (ok:=(fun k_ => (P0_ k_ ∨ w.heap.size ≤ k_))) (by (with_reducible repeat (first|apply Kd.R_alloc|apply Kd.R_drewN|apply Kd.R_drew));exact HO_0.out) hg hat)).2.2) KL37.out ((Kd.R_reads' (Kd.R_after (ok:=(fun k_ => (P0_ k_ ∨ w.heap.size ≤ k_))) (by (with_reducible repeat (first|apply Kd.R_alloc|apply Kd.R_drewN|apply Kd.R_drew));exact HO_0.out) hg hat)).2.1)));have n5_:=Aside0.mk (ho);clear HO_0;clear HB;clear HK;clear HR218;clear HR228;clear HO224;have HO_0:=n0_;have HB:=n1_;have HK:=n2_;have HR218:=n3_;have HR228:=n4_;have HO231:=n5_;clear n0_ n1_ n2_ n3_ n4_ n5_;clear ho hb hg hat))
         go_ret
         exact ⟨_,by first|rfl|(simp [errW_none,errW_some] <;> rfl)|(simp [*,errW_none,errW_some] <;> rfl),by (with_reducible repeat (first|apply Kd.R_alloc|apply Kd.R_drewN|apply Kd.R_drew));exact Kd.R_mono HO231.out (fun _ hk => hk.1),by repeat (first|(with_reducible first|exact HB.out|apply below_alloc|apply pw_below_drewN|apply below_drew1)|exact HB.out),by repeat (first|(with_reducible first|exact HK.out|apply Kept.alloc|apply Kept.drewN|apply Kept.drew)|exact HK.out)⟩
        ·
         rw [if_neg c30] at H
         exact absurd H (by simp)
       ·
        rw [if_neg c27] at H
        exact absurd H (by simp)
      ·
       rw [if_neg c26] at H
       exact absurd H (by simp)
     ·
      rw [if_neg c25] at H
      exact absurd H (by simp)
    ·
     rw [if_neg c24] at H
     exact absurd H (by simp)

def spec_inMissing.l0 : Nat → List Int → List (S85) → Int → Int → List Int → Int → Option (List Int)
 | 0,_,_,_,_,_,_ => none
 | k + 1,x5,x8,x9,x10,x233000,x233001 => if x10 < x9 then (if 0 ≤ x10 then (if x10 < (x8.length : Int) then ((spec_inTrack.f k x233000 x233001 ((rd_T85 x8 x10).f0)).bind fun t235 => (if t235 < 0 then ((spec_l1Put.f k x5 ((rd_T85 x8 x10).f0)).bind fun t236 => (spec_inMissing.l0 k t236 x8 x9 (wrap64 (x10 + 1)) x233000 x233001)) else (spec_inMissing.l0 k x5 x8 x9 (wrap64 (x10 + 1)) x233000 x233001))) else (none)) else (none)) else (some x5)
def spec_inMissing.f (k : Nat) (l0_0 : List Int) (a0_1 : Int) (l1 : List (S85)) : Option (List Int):=spec_inMissing.l0 k ([] : List Int) l1 (l1.length : Int) 0 l0_0 a0_1
theorem spec_inMissing.mono_l : ∀ k,(∀ y0 y1 y2 y3 y4 y5,LeO (spec_inMissing.l0 k y0 y1 y2 y3 y4 y5) (spec_inMissing.l0 (k + 1) y0 y1 y2 y3 y4 y5))
 | 0 => fun _ _ _ _ _ _ r h => by simp [spec_inMissing.l0] at h
 | k + 1 => by
  have ih0:=spec_inMissing.mono_l k
  ·
   intro y0 y1 y2 y3 y4 y5
   unfold spec_inMissing.l0
   repeat' first
   | (with_reducible exact ih0 _ _ _ _ _ _)
   | (with_reducible exact spec_inTrack.mono _ _ _ _)
   | (with_reducible exact spec_l1Put.mono _ _ _)
   | (with_reducible exact LeO.refl _)
   | (with_reducible exact LeO.none _)
   | (with_reducible refine LeO.ite ?_ ?_)
   | (with_reducible refine LeO.bind ?_ (fun _ => ?_))
   | exact ih0 _ _ _ _ _ _
   | exact LeO.none _
   | refine LeO.ite ?_ ?_
   | refine LeO.bind ?_ (fun _ => ?_)
theorem spec_inMissing.mono : ∀ a0 a1 a2 k,LeO (spec_inMissing.f k a0 a1 a2) (spec_inMissing.f (k + 1) a0 a1 a2):=by
 intro a0 a1 a2 k
 have ih0:=spec_inMissing.mono_l k
 unfold spec_inMissing.f
 repeat' first
   | (with_reducible exact ih0 _ _ _ _ _ _)
   | (with_reducible exact spec_inTrack.mono _ _ _ _)
   | (with_reducible exact spec_l1Put.mono _ _ _)
   | (with_reducible exact LeO.refl _)
   | (with_reducible exact LeO.none _)
   | (with_reducible refine LeO.ite ?_ ?_)
   | (with_reducible refine LeO.bind ?_ (fun _ => ?_))
   | exact ih0 _ _ _ _ _ _
   | exact LeO.none _
   | refine LeO.ite ?_ ?_
   | refine LeO.bind ?_ (fun _ => ?_)
set_option maxHeartbeats 8000000 in
set_option maxRecDepth 100000 in
theorem spec_inMissing.calls (k : Nat) (A0_0 : Option Addr) (c0_0 : Nat) (l0_0 : List Int) (a0_1 : Int) (A1 : Option Addr) (c1 : Nat) (l1 : List (S85)) (r : List Int) (w : World) (hr0_0 : Kd.C (Kd.int .i64) w A0_0 l0_0.length l0_0) (hc0_0 : l0_0.length ≤ c0_0) (hr1 : Kd.C k85 w A1 l1.length l1) (hc1 : l1.length ≤ c1) (h : spec_inMissing.f k l0_0 a0_1 l1 = some r) :
  Calls Try.prog 170 #[.agg #[.slice A0_0 l0_0.length c0_0,.int .i64 a0_1],.slice A1 l1.length c1] w fun e w' => ∃ v0_ : Value,e = .returned (v0_) ∧ Kd.R (Kd.int .i64) 3 w' w.heap.size (fun _ => True) v0_ r ∧ Below w.heap.size w w':=by
 have hu102:=Try.underlying102
 have hu85:=Try.underlying85
 have HR0_0:=Aside0.mk hr0_0
 have HC0_0:=Aside0.mk hc0_0
 clear hr0_0 hc0_0
 have HR1:=Aside0.mk hr1
 have HC1:=Aside0.mk hc1
 clear hr1 hc1
 have HB:=Aside0.mk (Below.refl w.heap.size w)
 have H : (spec_inMissing.l0 k ([] : List Int) l1 (l1.length : Int) 0 l0_0 a0_1) = some r:=h
 clear h
 have H':=Aside0.mk H
 clear H
 go_enter Try.func170,Try.ntmps170
 go_wp2_with (first|((with_reducible refine gate_dst (N:=2) rfl ?_);refine box_event ?hg (N:=2) ?hd (cs:=#[.slice A0_0 l0_0.length c0_0,.int .i64 a0_1]) (t:=102) ?hr ?_;(case hd => rfl);(case hg => rfl);(case hr => first|(go_simp;done)|(go_simp;rfl));intro gb232 hg w3 hbox hb;have n0_:=Aside0.mk (below_step (by repeat (first|(with_reducible first|exact HB.out|apply below_alloc|apply pw_below_drewN|apply below_drew1)|exact HB.out)) hb);have n1_:=Aside0.mk (hbox);have n2_:=Aside0.mk ((by rw [hg];exact (below_size (by repeat (first|(with_reducible first|exact HB.out|apply below_alloc|apply pw_below_drewN|apply below_drew1)|exact HB.out))) : w.heap.size ≤ gb232));have n3_:=Aside0.mk ((by rw [hg];exact (below_size (by repeat (first|(with_reducible first|exact HB.out|apply below_alloc|apply pw_below_drewN|apply below_drew1)|exact HB.out))) : w.heap.size ≤ gb232));clear HB;have HB:=n0_;have BK232:=n1_;have GW232:=n2_;have GE232:=n3_;clear n0_ n1_ n2_ n3_;clear hb hbox hg))
 go_loopg [5,10] k (fun kq v5 v10 w' => ∃ (x5_1 : List Int) (x10_1 : Int),v10 = .int .i64 x10_1 ∧ Aside0 (spec_inMissing.l0 kq x5_1 l1 (l1.length : Int) x10_1 l0_0 a0_1 = some r) ∧ Aside0 (kq ≤ k) ∧ Aside0 (Kd.R (Kd.int .i64) 3 w' w.heap.size (fun _ => True) v5 x5_1) ∧ Aside0 (w'.heap[gb232]? = some (.cells #[(.slice A0_0 l0_0.length c0_0),.int .i64 a0_1] 102 (0,0))) ∧ Aside0 (Below w.heap.size w w'))
 case atStart => exact ⟨(([] : List Int)),(0),(by first|rfl|(simp;done)|(simp [*];done)),H',⟨Nat.le_refl _⟩,⟨by first|exact Kd.R_nil _ _ _ _ _|exact Kd.N_nil _ _ _ _ _|exact Kd.V_nil _ _ _ _ _|exact Kd.Q_nil _ _ _ _ _|exact Kd.S_nil _ _ _ _ _⟩,⟨by (with_reducible repeat (first|refine blk_drewN ?_ _|refine blk_drew ?_|refine blk_alloc ?_ _));exact BK232.out⟩,⟨by repeat (first|(with_reducible first|exact HB.out|apply below_alloc|apply pw_below_drewN|apply below_drew1|refine below_set ?_ GE232.out)|exact HB.out)⟩⟩
 case round =>
  clear H';try clear c1
  try clear p2
  obtain ⟨x5_1,x10_1,rfl,HA,HK1,HO_5,BK232,HB⟩:=hrel
  cases gk with
  | zero => exact absurd HA.out (by simp [spec_inMissing.l0])
  | succ k1 =>
   have H:=HA.out
   clear HA;simp only [spec_inMissing.l0] at H;by_cases c4 : x10_1 < (l1.length : Int)
   ·
    rw [if_pos c4] at H
    have c4b0 : decide (x10_1 < (l1.length : Int)) = true:=decide_eq_true c4
    clear c4;by_cases c5 : 0 ≤ x10_1
    ·
     rw [if_pos c5] at H
     have c5b0 : decide (0 ≤ x10_1) = true:=decide_eq_true c5
     clear c5;by_cases c6 : x10_1 < (l1.length : Int)
     ·
      rw [if_pos c6] at H
      have c6b0 : decide (x10_1 < (l1.length : Int)) = true:=decide_eq_true c6
      clear c6;replace H:=Option.bind_eq_some_iff.mp H;obtain ⟨t235,A70,H⟩:=H;replace H : (if t235 < 0 then ((spec_l1Put.f k1 x5_1 ((rd_T85 l1 x10_1).f0)).bind fun t236 => (spec_inMissing.l0 k1 t236 l1 (l1.length : Int) (wrap64 (x10_1 + 1)) l0_0 a0_1)) else (spec_inMissing.l0 k1 x5_1 l1 (l1.length : Int) (wrap64 (x10_1 + 1)) l0_0 a0_1)) = some r:=H
      have A7:=Aside0.mk A70;clear A70;by_cases c8 : t235 < 0
      ·
       rw [if_pos c8] at H
       have c8b0 : decide (t235 < 0) = true:=decide_eq_true c8
       clear c8;replace H:=Option.bind_eq_some_iff.mp H;obtain ⟨t236,A90,H⟩:=H;replace H : (spec_inMissing.l0 k1 t236 l1 (l1.length : Int) (wrap64 (x10_1 + 1)) l0_0 a0_1) = some r:=H;have A9:=Aside0.mk A90;clear A90;have H':=Aside0.mk H;clear H;have p233 : 0 ≤ (x10_1 : Int):=of_decide_eq_true (by assumption)
       have q233 : x10_1 < (l1.length : Int):=of_decide_eq_true (by assumption)
       obtain ⟨ad233,e233,hx233_0,hx233_1,hx233_2⟩:=at_T85 HR1.out x10_1 p233 q233
       cases e233
       replace hx233_0:=(HB.out.cell (World.block_lt_of_cell? w _ hx233_0)).trans hx233_0
       replace hx233_1:=(HB.out.cell (World.block_lt_of_cell? w _ hx233_1)).trans hx233_1
       replace hx233_2:=(HB.out.cell (World.block_lt_of_cell? w _ hx233_2)).trans hx233_2
       replace p233:=eq_true p233;replace q233:=eq_true q233;go_wp2_with (first|((with_reducible refine gate_dst (N:=7) rfl ?_);refine box_event ?hg (N:=7) ?hd (cs:=#[.int .i64 0,.int .i64 0,.int .i64 0]) (t:=85) ?hr ?_;(case hd => rfl);(case hg => rfl);(case hr => first|(go_simp;done)|(go_simp;rfl));intro gb234 hg w10 hbox hb;have n0_:=Aside0.mk (Kd.R_below (by (with_reducible repeat (first|apply Kd.R_alloc|apply Kd.R_drewN|apply Kd.R_drew));exact HO_5.out) hb);have n1_:=Aside0.mk (blk_below (g:=gb232) (o:=.cells #[.slice A0_0 l0_0.length c0_0,.int .i64 a0_1] 102 (0,0)) (by (with_reducible repeat (first|refine blk_drewN ?_ _|refine blk_drew ?_|refine blk_alloc ?_ _));exact BK232.out) hb);have n2_:=Aside0.mk (below_step (by repeat (first|(with_reducible first|exact HB.out|apply below_alloc|apply pw_below_drewN|apply below_drew1|refine below_set ?_ GE232.out)|exact HB.out)) hb);have n3_:=Aside0.mk (hbox);have n4_:=Aside0.mk ((by rw [hg];exact (below_size (by repeat (first|(with_reducible first|exact HB.out|apply below_alloc|apply pw_below_drewN|apply below_drew1|refine below_set ?_ GE232.out)|exact HB.out))) : w.heap.size ≤ gb234));have n5_:=Aside0.mk ((by rw [hg];exact (below_size (by repeat (first|(with_reducible first|exact HB.out|apply below_alloc|apply pw_below_drewN|apply below_drew1|refine below_set ?_ GE232.out)|exact HB.out))) : w.heap.size ≤ gb234));have n6_:=Aside0.mk ((by rw [hg];exact Nat.ne_of_lt (blk_lt (g:=gb232) (o:=.cells #[.slice A0_0 l0_0.length c0_0,.int .i64 a0_1] 102 (0,0)) (by (with_reducible repeat (first|refine blk_drewN ?_ _|refine blk_drew ?_|refine blk_alloc ?_ _));exact BK232.out)) : gb232 ≠ gb234));have n7_:=Aside0.mk ((by rw [hg];exact Nat.ne_of_gt (blk_lt (g:=gb232) (o:=.cells #[.slice A0_0 l0_0.length c0_0,.int .i64 a0_1] 102 (0,0)) (by (with_reducible repeat (first|refine blk_drewN ?_ _|refine blk_drew ?_|refine blk_alloc ?_ _));exact BK232.out)) : gb234 ≠ gb232));clear HO_5;clear BK232;clear HB;have HO_5:=n0_;have BK232:=n1_;have HB:=n2_;have BK234:=n3_;have GW234:=n4_;have GE234:=n5_;have NB232_234:=n6_;have NB234_232:=n7_;clear n0_ n1_ n2_ n3_ n4_ n5_ n6_ n7_;clear hb hbox hg;have hnb11:=NB234_232.out;have hnc11:=NB232_234.out;have hcz12_0 : w10.cell? ⟨gb234,0,none⟩ = some (.int .i64 0):=(blk_cell BK234.out 0).trans rfl;have hcz12_1 : w10.cell? ⟨gb234,1,none⟩ = some (.int .i64 0):=(blk_cell BK234.out 1).trans rfl;have hcz12_2 : w10.cell? ⟨gb234,2,none⟩ = some (.int .i64 0):=(blk_cell BK234.out 2).trans rfl;have hfz12_0:=blk_frozen BK234.out 0;have hfz12_1:=blk_frozen BK234.out 1;have hfz12_2:=blk_frozen BK234.out 2;have hcz13_0 : w10.cell? ⟨gb232,0,none⟩ = some (.slice A0_0 l0_0.length c0_0):=(blk_cell BK232.out 0).trans rfl;have hcz13_1 : w10.cell? ⟨gb232,1,none⟩ = some (.int .i64 a0_1):=(blk_cell BK232.out 1).trans rfl;have hfz13_0:=blk_frozen BK232.out 0;have hfz13_1:=blk_frozen BK232.out 1)|((with_reducible refine gate_callee (f:=150) rfl ?_);refine goesL_ (some 17) rfl rfl Try.func150 (by kernel_rfl) rfl #[.agg #[.slice A0_0 l0_0.length c0_0,.int .i64 a0_1],.int .i64 ((rd_T85 l1 x10_1).f0)] rfl (by (try simp only [List.map_toArray,List.map_cons,List.map_nil]);first|done|rfl|(simp only [List.length_drop,List.length_take];rfl)) ?_;(with_reducible refine (spec_inTrack.calls k1 _ _ l0_0 a0_1 ((rd_T85 l1 x10_1).f0) t235 _ ?side1 ?side2 A7.out).mono ?_);(case side1 => exact Kd.C_below HR0_0.out (by repeat (first|(with_reducible first|exact HB.out|apply below_alloc|apply pw_below_drewN|apply below_drew1|refine below_set ?_ GE232.out|refine below_set ?_ GE234.out)|exact HB.out)));(case side2 => exact HC0_0.out);rintro e w14 ⟨rfl,hb⟩;refine ⟨_,rfl,?_⟩;have n0_:=Aside0.mk (Kd.R_below (by (with_reducible repeat (first|apply Kd.R_alloc|apply Kd.R_drewN|apply Kd.R_drew));exact (Kd.R_mono (Kd.R_far (p:=⟨gb234,2,none⟩) (Kd.R_far (p:=⟨gb234,1,none⟩) (Kd.R_far (p:=⟨gb234,0,none⟩) (Kd.R_types HO_5.out BK234.out (by decide)) (fun _ hk => hk.2) (.int .i64 ((rd_T85 l1 x10_1).f0))) (fun _ hk => hk.2) (.int .i64 ((rd_T85 l1 x10_1).f1))) (fun _ hk => hk.2) (.int .i64 ((rd_T85 l1 x10_1).f2))) (fun _ h_ => h_.1))) hb);have n1_:=Aside0.mk (blk_below (g:=gb232) (o:=.cells #[.slice A0_0 l0_0.length c0_0,.int .i64 a0_1] 102 (0,0)) (by (with_reducible repeat (first|refine blk_drewN ?_ _|refine blk_drew ?_|refine blk_alloc ?_ _));refine blk_far ?_ NB232_234.out _;(with_reducible repeat (first|refine blk_drewN ?_ _|refine blk_drew ?_|refine blk_alloc ?_ _));refine blk_far ?_ NB232_234.out _;(with_reducible repeat (first|refine blk_drewN ?_ _|refine blk_drew ?_|refine blk_alloc ?_ _));refine blk_far ?_ NB232_234.out _;(with_reducible repeat (first|refine blk_drewN ?_ _|refine blk_drew ?_|refine blk_alloc ?_ _));exact BK232.out) hb);have n2_:=Aside0.mk (blk_below (g:=gb234) (o:=.cells #[.int .i64 ((rd_T85 l1 x10_1).f0),.int .i64 ((rd_T85 l1 x10_1).f1),.int .i64 ((rd_T85 l1 x10_1).f2)] 85 (0,0)) (by (with_reducible repeat (first|refine blk_drewN ?_ _|refine blk_drew ?_|refine blk_alloc ?_ _));refine blk_put (cs:=#[.int .i64 ((rd_T85 l1 x10_1).f0),.int .i64 ((rd_T85 l1 x10_1).f1),.int .i64 0]) ?_ 2 _ rfl;(with_reducible repeat (first|refine blk_drewN ?_ _|refine blk_drew ?_|refine blk_alloc ?_ _));refine blk_put (cs:=#[.int .i64 ((rd_T85 l1 x10_1).f0),.int .i64 0,.int .i64 0]) ?_ 1 _ rfl;(with_reducible repeat (first|refine blk_drewN ?_ _|refine blk_drew ?_|refine blk_alloc ?_ _));refine blk_put (cs:=#[.int .i64 0,.int .i64 0,.int .i64 0]) ?_ 0 _ rfl;(with_reducible repeat (first|refine blk_drewN ?_ _|refine blk_drew ?_|refine blk_alloc ?_ _));exact BK234.out) hb);have n3_:=Aside0.mk (below_step (by repeat (first|(with_reducible first|exact HB.out|apply below_alloc|apply pw_below_drewN|apply below_drew1|refine below_set ?_ GE232.out|refine below_set ?_ GE234.out)|exact HB.out)) hb);clear HO_5;clear BK232;clear BK234;clear HB;have HO_5:=n0_;have BK232:=n1_;have BK234:=n2_;have HB:=n3_;clear n0_ n1_ n2_ n3_;(try clear hb);(try clear hb2);(try clear hk);(try clear hi);have hcz15_0 : w14.cell? ⟨gb234,0,none⟩ = some (.int .i64 ((rd_T85 l1 x10_1).f0)):=(blk_cell BK234.out 0).trans rfl;have hcz15_1 : w14.cell? ⟨gb234,1,none⟩ = some (.int .i64 ((rd_T85 l1 x10_1).f1)):=(blk_cell BK234.out 1).trans rfl;have hcz15_2 : w14.cell? ⟨gb234,2,none⟩ = some (.int .i64 ((rd_T85 l1 x10_1).f2)):=(blk_cell BK234.out 2).trans rfl;have hfz15_0:=blk_frozen BK234.out 0;have hfz15_1:=blk_frozen BK234.out 1;have hfz15_2:=blk_frozen BK234.out 2;obtain ⟨Ao16,co16,eo16⟩:=Kd.R_slice HO_5.out;subst eo16)|((with_reducible refine gate_callee (f:=183) rfl ?_);refine goesL_ (some 22) rfl rfl Try.func183 (by kernel_rfl) rfl #[.slice Ao16 x5_1.length co16,.int .i64 ((rd_T85 l1 x10_1).f0)] rfl (by (try simp only [List.map_toArray,List.map_cons,List.map_nil]);first|done|rfl|(simp only [List.length_drop,List.length_take];rfl)) ?_;(with_reducible refine (spec_l1Put.calls k1 (fun k_ => some k_ = (.slice Ao16 x5_1.length co16 : Value).ownBlock) (.slice Ao16 x5_1.length co16) x5_1 ((rd_T85 l1 x10_1).f0) t236 w _ ?side1 ?side2 A9.out).mono ?_);(case side1 => repeat (first|(with_reducible first|exact HB.out|apply below_alloc|apply pw_below_drewN|apply below_drew1|refine below_set ?_ GE232.out|refine below_set ?_ GE234.out)|exact HB.out));(case side2 => exact Kd.R_tight rfl HO_5.out);rintro e w17 ⟨v237,rfl,ho0,hb,hkp⟩;refine ⟨_,rfl,?_⟩;have n0_:=Aside0.mk (blk_kept (by (with_reducible repeat (first|refine blk_drewN ?_ _|refine blk_drew ?_|refine blk_alloc ?_ _));exact BK232.out) hkp (fun hs_ => (fun e_ => (Kd.R_ne HO_5.out BK232.out (by decide)) e_) hs_));have n1_:=Aside0.mk (blk_kept (by (with_reducible repeat (first|refine blk_drewN ?_ _|refine blk_drew ?_|refine blk_alloc ?_ _));exact BK234.out) hkp (fun hs_ => (fun e_ => (Kd.R_ne HO_5.out BK234.out (by decide)) e_) hs_));have n2_:=Aside0.mk (Kd.R_mono (ok':=fun k_ => True) ho0 (fun k_ hk_ => trivial));have n3_:=Aside0.mk (hb);clear BK232;clear BK234;clear HB;clear HO_5;have BK232:=n0_;have BK234:=n1_;have HO238:=n2_;have HB:=n3_;clear n0_ n1_ n2_ n3_;(try clear hb);(try clear hkp);(try clear ho0)))
       go_roundg k1
       case measure => have:=HK1.out;omega
       case rel => exact ⟨(t236),(wrap64 (x10_1 + 1)),(by first|rfl|(simp;done)|(simp [*];done)),H',⟨by have:=HK1.out;omega⟩,⟨by (with_reducible repeat (first|apply Kd.R_alloc|apply Kd.R_drewN|apply Kd.R_drew));exact HO238.out⟩,⟨by (with_reducible repeat (first|refine blk_drewN ?_ _|refine blk_drew ?_|refine blk_alloc ?_ _));exact BK232.out⟩,⟨by repeat (first|(with_reducible first|exact HB.out|apply below_alloc|apply pw_below_drewN|apply below_drew1|refine below_set ?_ GE232.out|refine below_set ?_ GE234.out)|exact HB.out)⟩⟩
      ·
       rw [if_neg c8] at H
       have c8b0 : decide (t235 < 0) = false:=decide_eq_false c8
       clear c8;have H':=Aside0.mk H;clear H;have p233 : 0 ≤ (x10_1 : Int):=of_decide_eq_true (by assumption)
       have q233 : x10_1 < (l1.length : Int):=of_decide_eq_true (by assumption)
       obtain ⟨ad233,e233,hx233_0,hx233_1,hx233_2⟩:=at_T85 HR1.out x10_1 p233 q233
       cases e233
       replace hx233_0:=(HB.out.cell (World.block_lt_of_cell? w _ hx233_0)).trans hx233_0
       replace hx233_1:=(HB.out.cell (World.block_lt_of_cell? w _ hx233_1)).trans hx233_1
       replace hx233_2:=(HB.out.cell (World.block_lt_of_cell? w _ hx233_2)).trans hx233_2
       replace p233:=eq_true p233;replace q233:=eq_true q233;go_wp2_with (first|((with_reducible refine gate_dst (N:=7) rfl ?_);refine box_event ?hg (N:=7) ?hd (cs:=#[.int .i64 0,.int .i64 0,.int .i64 0]) (t:=85) ?hr ?_;(case hd => rfl);(case hg => rfl);(case hr => first|(go_simp;done)|(go_simp;rfl));intro gb234 hg w18 hbox hb;have n0_:=Aside0.mk (Kd.R_below (by (with_reducible repeat (first|apply Kd.R_alloc|apply Kd.R_drewN|apply Kd.R_drew));exact HO_5.out) hb);have n1_:=Aside0.mk (blk_below (g:=gb232) (o:=.cells #[.slice A0_0 l0_0.length c0_0,.int .i64 a0_1] 102 (0,0)) (by (with_reducible repeat (first|refine blk_drewN ?_ _|refine blk_drew ?_|refine blk_alloc ?_ _));exact BK232.out) hb);have n2_:=Aside0.mk (below_step (by repeat (first|(with_reducible first|exact HB.out|apply below_alloc|apply pw_below_drewN|apply below_drew1|refine below_set ?_ GE232.out)|exact HB.out)) hb);have n3_:=Aside0.mk (hbox);have n4_:=Aside0.mk ((by rw [hg];exact (below_size (by repeat (first|(with_reducible first|exact HB.out|apply below_alloc|apply pw_below_drewN|apply below_drew1|refine below_set ?_ GE232.out)|exact HB.out))) : w.heap.size ≤ gb234));have n5_:=Aside0.mk ((by rw [hg];exact (below_size (by repeat (first|(with_reducible first|exact HB.out|apply below_alloc|apply pw_below_drewN|apply below_drew1|refine below_set ?_ GE232.out)|exact HB.out))) : w.heap.size ≤ gb234));have n6_:=Aside0.mk ((by rw [hg];exact Nat.ne_of_lt (blk_lt (g:=gb232) (o:=.cells #[.slice A0_0 l0_0.length c0_0,.int .i64 a0_1] 102 (0,0)) (by (with_reducible repeat (first|refine blk_drewN ?_ _|refine blk_drew ?_|refine blk_alloc ?_ _));exact BK232.out)) : gb232 ≠ gb234));have n7_:=Aside0.mk ((by rw [hg];exact Nat.ne_of_gt (blk_lt (g:=gb232) (o:=.cells #[.slice A0_0 l0_0.length c0_0,.int .i64 a0_1] 102 (0,0)) (by (with_reducible repeat (first|refine blk_drewN ?_ _|refine blk_drew ?_|refine blk_alloc ?_ _));exact BK232.out)) : gb234 ≠ gb232));clear HO_5;clear BK232;clear HB;have HO_5:=n0_;have BK232:=n1_;have HB:=n2_;have BK234:=n3_;have GW234:=n4_;have GE234:=n5_;have NB232_234:=n6_;have NB234_232:=n7_;clear n0_ n1_ n2_ n3_ n4_ n5_ n6_ n7_;clear hb hbox hg;have hnb19:=NB234_232.out;have hnc19:=NB232_234.out;have hcz20_0 : w18.cell? ⟨gb234,0,none⟩ = some (.int .i64 0):=(blk_cell BK234.out 0).trans rfl;have hcz20_1 : w18.cell? ⟨gb234,1,none⟩ = some (.int .i64 0):=(blk_cell BK234.out 1).trans rfl;have hcz20_2 : w18.cell? ⟨gb234,2,none⟩ = some (.int .i64 0):=(blk_cell BK234.out 2).trans rfl;have hfz20_0:=blk_frozen BK234.out 0;have hfz20_1:=blk_frozen BK234.out 1;have hfz20_2:=blk_frozen BK234.out 2;have hcz21_0 : w18.cell? ⟨gb232,0,none⟩ = some (.slice A0_0 l0_0.length c0_0):=(blk_cell BK232.out 0).trans rfl;have hcz21_1 : w18.cell? ⟨gb232,1,none⟩ = some (.int .i64 a0_1):=(blk_cell BK232.out 1).trans rfl;have hfz21_0:=blk_frozen BK232.out 0;have hfz21_1:=blk_frozen BK232.out 1)|((with_reducible refine gate_callee (f:=150) rfl ?_);refine goesL_ (some 17) rfl rfl Try.func150 (by kernel_rfl) rfl #[.agg #[.slice A0_0 l0_0.length c0_0,.int .i64 a0_1],.int .i64 ((rd_T85 l1 x10_1).f0)] rfl (by (try simp only [List.map_toArray,List.map_cons,List.map_nil]);first|done|rfl|(simp only [List.length_drop,List.length_take];rfl)) ?_;(with_reducible refine (spec_inTrack.calls k1 _ _ l0_0 a0_1 ((rd_T85 l1 x10_1).f0) t235 _ ?side1 ?side2 A7.out).mono ?_);(case side1 => exact Kd.C_below HR0_0.out (by repeat (first|(with_reducible first|exact HB.out|apply below_alloc|apply pw_below_drewN|apply below_drew1|refine below_set ?_ GE232.out|refine below_set ?_ GE234.out)|exact HB.out)));(case side2 => exact HC0_0.out);rintro e w22 ⟨rfl,hb⟩;refine ⟨_,rfl,?_⟩;have n0_:=Aside0.mk (Kd.R_below (by (with_reducible repeat (first|apply Kd.R_alloc|apply Kd.R_drewN|apply Kd.R_drew));exact (Kd.R_mono (Kd.R_far (p:=⟨gb234,2,none⟩) (Kd.R_far (p:=⟨gb234,1,none⟩) (Kd.R_far (p:=⟨gb234,0,none⟩) (Kd.R_types HO_5.out BK234.out (by decide)) (fun _ hk => hk.2) (.int .i64 ((rd_T85 l1 x10_1).f0))) (fun _ hk => hk.2) (.int .i64 ((rd_T85 l1 x10_1).f1))) (fun _ hk => hk.2) (.int .i64 ((rd_T85 l1 x10_1).f2))) (fun _ h_ => h_.1))) hb);have n1_:=Aside0.mk (blk_below (g:=gb232) (o:=.cells #[.slice A0_0 l0_0.length c0_0,.int .i64 a0_1] 102 (0,0)) (by (with_reducible repeat (first|refine blk_drewN ?_ _|refine blk_drew ?_|refine blk_alloc ?_ _));refine blk_far ?_ NB232_234.out _;(with_reducible repeat (first|refine blk_drewN ?_ _|refine blk_drew ?_|refine blk_alloc ?_ _));refine blk_far ?_ NB232_234.out _;(with_reducible repeat (first|refine blk_drewN ?_ _|refine blk_drew ?_|refine blk_alloc ?_ _));refine blk_far ?_ NB232_234.out _;(with_reducible repeat (first|refine blk_drewN ?_ _|refine blk_drew ?_|refine blk_alloc ?_ _));exact BK232.out) hb);have n2_:=Aside0.mk (blk_below (g:=gb234) (o:=.cells #[.int .i64 ((rd_T85 l1 x10_1).f0),.int .i64 ((rd_T85 l1 x10_1).f1),.int .i64 ((rd_T85 l1 x10_1).f2)] 85 (0,0)) (by (with_reducible repeat (first|refine blk_drewN ?_ _|refine blk_drew ?_|refine blk_alloc ?_ _));refine blk_put (cs:=#[.int .i64 ((rd_T85 l1 x10_1).f0),.int .i64 ((rd_T85 l1 x10_1).f1),.int .i64 0]) ?_ 2 _ rfl;(with_reducible repeat (first|refine blk_drewN ?_ _|refine blk_drew ?_|refine blk_alloc ?_ _));refine blk_put (cs:=#[.int .i64 ((rd_T85 l1 x10_1).f0),.int .i64 0,.int .i64 0]) ?_ 1 _ rfl;(with_reducible repeat (first|refine blk_drewN ?_ _|refine blk_drew ?_|refine blk_alloc ?_ _));refine blk_put (cs:=#[.int .i64 0,.int .i64 0,.int .i64 0]) ?_ 0 _ rfl;(with_reducible repeat (first|refine blk_drewN ?_ _|refine blk_drew ?_|refine blk_alloc ?_ _));exact BK234.out) hb);have n3_:=Aside0.mk (below_step (by repeat (first|(with_reducible first|exact HB.out|apply below_alloc|apply pw_below_drewN|apply below_drew1|refine below_set ?_ GE232.out|refine below_set ?_ GE234.out)|exact HB.out)) hb);clear HO_5;clear BK232;clear BK234;clear HB;have HO_5:=n0_;have BK232:=n1_;have BK234:=n2_;have HB:=n3_;clear n0_ n1_ n2_ n3_;(try clear hb);(try clear hb2);(try clear hk);(try clear hi)))
       go_roundg k1
       case measure => have:=HK1.out;omega
       case rel => exact ⟨(x5_1),(wrap64 (x10_1 + 1)),(by first|rfl|(simp;done)|(simp [*];done)),H',⟨by have:=HK1.out;omega⟩,⟨by (with_reducible repeat (first|apply Kd.R_alloc|apply Kd.R_drewN|apply Kd.R_drew));exact HO_5.out⟩,⟨by (with_reducible repeat (first|refine blk_drewN ?_ _|refine blk_drew ?_|refine blk_alloc ?_ _));exact BK232.out⟩,⟨by repeat (first|(with_reducible first|exact HB.out|apply below_alloc|apply pw_below_drewN|apply below_drew1|refine below_set ?_ GE232.out|refine below_set ?_ GE234.out)|exact HB.out)⟩⟩
     ·
      rw [if_neg c6] at H
      exact absurd H (by simp)
    ·
     rw [if_neg c5] at H
     exact absurd H (by simp)
   ·
    rw [if_neg c4] at H
    have c4b0 : decide (x10_1 < (l1.length : Int)) = false:=decide_eq_false c4
    clear c4;obtain rfl:=Option.some.inj H;go_wp2;go_ret;exact ⟨_,by first|rfl|(simp [errW_none,errW_some] <;> rfl)|(simp [*,errW_none,errW_some] <;> rfl),by (with_reducible repeat (first|apply Kd.R_alloc|apply Kd.R_drewN|apply Kd.R_drew));exact HO_5.out,by repeat (first|(with_reducible first|exact HB.out|apply below_alloc|apply pw_below_drewN|apply below_drew1|refine below_set ?_ GE232.out)|exact HB.out)⟩

def spec_inLast.l0 : Nat → List (S85) → Int → Int → Option (Int)
 | 0,_,_,_ => none
 | k + 1,x0,x1,x5 => if x5 ≥ 0 then (if 0 ≤ x5 then (if x5 < (x0.length : Int) then (if 0 ≤ x1 then (if x1 < (x0.length : Int) then (if ((rd_T85 x0 x5).f0) = ((rd_T85 x0 x1).f0) then (some x5) else (spec_inLast.l0 k x0 x1 (wrap64 (x5 - 1)))) else (none)) else (none)) else (none)) else (none)) else (some (-1))
def spec_inLast.f (k : Nat) (l0 : List (S85)) (a1 : Int) : Option (Int):=spec_inLast.l0 k l0 a1 (wrap64 (a1 - 1))
theorem spec_inLast.mono_l : ∀ k,(∀ y0 y1 y2,LeO (spec_inLast.l0 k y0 y1 y2) (spec_inLast.l0 (k + 1) y0 y1 y2))
 | 0 => fun _ _ _ r h => by simp [spec_inLast.l0] at h
 | k + 1 => by
  have ih0:=spec_inLast.mono_l k
  ·
   intro y0 y1 y2
   unfold spec_inLast.l0
   repeat' first
   | (with_reducible exact ih0 _ _ _)
   | (with_reducible exact LeO.refl _)
   | (with_reducible exact LeO.none _)
   | (with_reducible refine LeO.ite ?_ ?_)
   | (with_reducible refine LeO.bind ?_ (fun _ => ?_))
   | exact ih0 _ _ _
   | exact LeO.none _
   | refine LeO.ite ?_ ?_
   | refine LeO.bind ?_ (fun _ => ?_)
theorem spec_inLast.mono : ∀ a0 a1 k,LeO (spec_inLast.f k a0 a1) (spec_inLast.f (k + 1) a0 a1):=by
 intro a0 a1 k
 have ih0:=spec_inLast.mono_l k
 unfold spec_inLast.f
 repeat' first
   | (with_reducible exact ih0 _ _ _)
   | (with_reducible exact LeO.refl _)
   | (with_reducible exact LeO.none _)
   | (with_reducible refine LeO.ite ?_ ?_)
   | (with_reducible refine LeO.bind ?_ (fun _ => ?_))
   | exact ih0 _ _ _
   | exact LeO.none _
   | refine LeO.ite ?_ ?_
   | refine LeO.bind ?_ (fun _ => ?_)
set_option maxHeartbeats 8000000 in
set_option maxRecDepth 100000 in
theorem spec_inLast.calls (k : Nat) (A0 : Option Addr) (c0 : Nat) (l0 : List (S85)) (a1 : Int) (r : Int) (w : World) (hr0 : Kd.C k85 w A0 l0.length l0) (hc0 : l0.length ≤ c0) (h : spec_inLast.f k l0 a1 = some r) :
  Calls Try.prog 149 #[.slice A0 l0.length c0,.int .i64 a1] w fun e w' => e = .returned (.int .i64 r) ∧ Drawn0 w w':=by
 have HR0:=Aside0.mk hr0
 have HC0:=Aside0.mk hc0
 clear hr0 hc0
 have H : (spec_inLast.l0 k l0 a1 (wrap64 (a1 - 1))) = some r:=h
 clear h
 have H':=Aside0.mk H
 clear H
 go_enter Try.func149,Try.ntmps149
 go_wp2
 repeat (go_quiet (fail);try go_wp2)
 go_loopg [5] k (fun kq v5 w' => ∃ (x5_1 : Int),v5 = .int .i64 x5_1 ∧ Aside0 (spec_inLast.l0 kq l0 a1 x5_1 = some r) ∧ Aside0 (kq ≤ k) ∧ Drawn0 w w')
 case atStart => exact ⟨(wrap64 (a1 - 1)),(by first|rfl|(simp;done)|(simp [*];done)),H',⟨Nat.le_refl _⟩,by repeat (first|exact Drawn0.refl _|apply Drawn0.step)⟩
 case round =>
  clear H';try clear c1
  try clear p2
  obtain ⟨x5_1,rfl,HA,HK1,⟨m1,rfl⟩⟩:=hrel
  cases gk with
  | zero => exact absurd HA.out (by simp [spec_inLast.l0])
  | succ k1 =>
   have H:=HA.out
   clear HA;simp only [spec_inLast.l0] at H;by_cases c3 : x5_1 ≥ 0
   ·
    rw [if_pos c3] at H
    have c3b0 : decide (0 ≤ x5_1) = true:=decide_eq_true c3
    clear c3;by_cases c4 : 0 ≤ x5_1
    ·
     rw [if_pos c4] at H
     have c4b0 : decide (0 ≤ x5_1) = true:=decide_eq_true c4
     clear c4;by_cases c5 : x5_1 < (l0.length : Int)
     ·
      rw [if_pos c5] at H
      have c5b0 : decide (x5_1 < (l0.length : Int)) = true:=decide_eq_true c5
      clear c5;by_cases c6 : 0 ≤ a1
      ·
       rw [if_pos c6] at H
       have c6b0 : decide (0 ≤ a1) = true:=decide_eq_true c6
       clear c6;by_cases c7 : a1 < (l0.length : Int)
       ·
        rw [if_pos c7] at H
        have c7b0 : decide (a1 < (l0.length : Int)) = true:=decide_eq_true c7
        clear c7;by_cases c8 : ((rd_T85 l0 x5_1).f0) = ((rd_T85 l0 a1).f0)
        ·
         rw [if_pos c8] at H
         have c8b0 : (((rd_T85 l0 x5_1).f0) == ((rd_T85 l0 a1).f0)) = true:=beq_iff_eq.mpr c8
         have c8b1 : (((rd_T85 l0 x5_1).f0) != ((rd_T85 l0 a1).f0)) = false:=bne_eq_false_iff_eq.mpr c8
         clear c8;obtain rfl:=Option.some.inj H;have p239 : 0 ≤ (x5_1 : Int):=of_decide_eq_true (by assumption)
         have q239 : x5_1 < (l0.length : Int):=of_decide_eq_true (by assumption)
         obtain ⟨ad239,e239,hx239_0,hx239_1,hx239_2⟩:=at_T85 HR0.out x5_1 p239 q239
         cases e239
         replace p239:=eq_true p239;replace q239:=eq_true q239;have p240 : 0 ≤ (a1 : Int):=of_decide_eq_true (by assumption)
         have q240 : a1 < (l0.length : Int):=of_decide_eq_true (by assumption)
         obtain ⟨ad240,e240,hx240_0,hx240_1,hx240_2⟩:=at_T85 HR0.out a1 p240 q240
         obtain rfl : ad239 = ad240:=(by injection e240)
         replace p240:=eq_true p240;replace q240:=eq_true q240;go_wp2;repeat (go_quiet (fail);try go_wp2)
         go_ret
         exact ⟨by first|rfl|(simp;done)|(simp [*];done),by repeat (first|exact Drawn0.refl _|apply Drawn0.step)⟩
        ·
         rw [if_neg c8] at H
         have c8b0 : (((rd_T85 l0 x5_1).f0) == ((rd_T85 l0 a1).f0)) = false:=beq_eq_false_iff_ne.mpr c8
         have c8b1 : (((rd_T85 l0 x5_1).f0) != ((rd_T85 l0 a1).f0)) = true:=bne_iff_ne.mpr c8
         have H':=Aside0.mk H
         clear H;have p239 : 0 ≤ (x5_1 : Int):=of_decide_eq_true (by assumption)
         have q239 : x5_1 < (l0.length : Int):=of_decide_eq_true (by assumption)
         obtain ⟨ad239,e239,hx239_0,hx239_1,hx239_2⟩:=at_T85 HR0.out x5_1 p239 q239
         cases e239
         replace p239:=eq_true p239;replace q239:=eq_true q239;have p240 : 0 ≤ (a1 : Int):=of_decide_eq_true (by assumption)
         have q240 : a1 < (l0.length : Int):=of_decide_eq_true (by assumption)
         obtain ⟨ad240,e240,hx240_0,hx240_1,hx240_2⟩:=at_T85 HR0.out a1 p240 q240
         obtain rfl : ad239 = ad240:=(by injection e240)
         replace p240:=eq_true p240;replace q240:=eq_true q240;go_wp2;repeat (go_quiet (fail);try go_wp2)
         go_roundg k1
         case measure => have:=HK1.out;omega
         case rel => exact ⟨(wrap64 (x5_1 - 1)),(by first|rfl|(simp;done)|(simp [*];done)),H',⟨by have:=HK1.out;omega⟩,by repeat (first|exact Drawn0.refl _|apply Drawn0.step)⟩
       ·
        rw [if_neg c7] at H
        exact absurd H (by simp)
      ·
       rw [if_neg c6] at H
       exact absurd H (by simp)
     ·
      rw [if_neg c5] at H
      exact absurd H (by simp)
    ·
     rw [if_neg c4] at H
     exact absurd H (by simp)
   ·
    rw [if_neg c3] at H
    have c3b0 : decide (0 ≤ x5_1) = false:=decide_eq_false c3
    clear c3;obtain rfl:=Option.some.inj H;go_wp2;repeat (go_quiet (fail);try go_wp2)
    go_ret
    exact ⟨by first|rfl|(simp;done)|(simp [*];done),by repeat (first|exact Drawn0.refl _|apply Drawn0.step)⟩

end Go.Proofs.Ythkofipgondalaa.QFnExactWhoPlays
