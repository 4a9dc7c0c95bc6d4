/- The library's SliceStable on few notes. -/
import Derived.Test.YtdfbgpmjmndnoaaGreatHD
set_option linter.unusedVariables false
set_option linter.unusedSimpArgs false
namespace Go.Proofs.YtdfbgpmjmndnoaaGreat.R
open Go.RowKit Go.Lib
structure Lay2 (P : Program) : Prop extends Lay P where
  t20 : P.underlying 20 = some (TypeDesc.interface #[])
  a20 : ∀ w, (isAgg 20).run P w = .ok false w
  z20 : ∀ w, (Go.sizeOf 20).run P w = .ok 1 w
  v20 : ∀ w, (zeroValue 20).run P w = .ok (Value.nilIface) w
  t101 : P.underlying 101 = some (TypeDesc.struct #[{ name := "typ_", type := 17, offset := 0, embedded := false, tag := "", pkgPath := "internal/reflectlite", byteOffset := 0 }, { name := "ptr", type := 98, offset := 1, embedded := false, tag := "", pkgPath := "internal/reflectlite", byteOffset := 8 }, { name := "flag", type := 99, offset := 2, embedded := true, tag := "", pkgPath := "internal/reflectlite", byteOffset := 16 }])
  a101 : ∀ w, (isAgg 101).run P w = .ok true w
  z101 : ∀ w, (Go.sizeOf 101).run P w = .ok 3 w
  v101 : ∀ w, (zeroValue 101).run P w = .ok (Value.agg #[Value.pointer none, Value.pointer none, Value.int IntKind.u64 0]) w
  f56 : P.funcs[56]? = some Tryz.f56
  f78 : P.funcs[78]? = some Tryz.f78
  f79 : P.funcs[79]? = some Tryz.f79
  f81 : P.funcs[81]? = some Tryz.f81
theorem lay2_try : Lay2 Tryz.prog :=
  ⟨lay_try, by kernel_rfl, fun _ => by kernel_rfl, fun _ => by kernel_rfl, fun _ => by kernel_rfl, by kernel_rfl, fun _ => by kernel_rfl, fun _ => by kernel_rfl, fun _ => by kernel_rfl, Tryz.func56, Tryz.func78, Tryz.func79, Tryz.func81⟩
@[reducible] def bound (P : Program) (ie : TypeInfo) (ke n : Nat) (v : Value) : Array Value := if swapperK n ie ke ≤ 2 then #[] else #[v, typeHandle P 59]
@[reducible] def world2 (P : Program) (v : Value) (w : World) : World :=
  (w.alloc (.cells #[v] 27)).alloc (.cells #[.pointer (some ⟨P.globals.size, 27, none⟩), .pointer (some ⟨w.heap.size, 0, none⟩), .int .u64 151] 101)
set_option maxHeartbeats 8000000 in
set_option maxRecDepth 100000 in
theorem slice56 {P : Program} (L : Lay2 P) (i ie : TypeInfo) (hi : P.info? 27 = some i) (hd : i.desc = .slice 59) (hpk : P.packed 27 = false) (hie : P.info? 59 = some ie) (ke : Nat) (hke : ∀ w, (Extern.Rtype.kind 59).run P w = .ok ke w)
    (p : Option Addr) (n c : Nat) (f : Nat) (hf : P.funcs.findIdx? (·.name == "internal/reflectlite" ++ ".Swapper$" ++ toString (swapperK n ie ke)) = some f) (l : Value) (hl : ∃ g lb, l = .func (.func g) #[] lb) (w : World) (R : World → Prop)
    (hp : Calls P 80 #[.agg #[l, .func (.func f) #[] (bound P ie ke n (.slice p n c))], .int .i64 n] (world2 P (.slice p n c) w) fun e w' => e = .returned (.tuple #[]) ∧ R w') :
    Calls P 56 #[.iface 27 (.slice p n c), l] w fun e w' => e = .returned (.tuple #[]) ∧ R w' := by
  obtain ⟨g, lb, rfl⟩ := hl
  have mixed := L.mixed
  have t0 := L.t0; have a0 := L.a0; have z0 := L.z0; have v0 := L.v0
  have t3 := L.t3; have a3 := L.a3; have z3 := L.z3; have v3 := L.v3
  have t4 := L.t4; have a4 := L.a4; have z4 := L.z4; have v4 := L.v4
  have t20 := L.t20; have a20 := L.a20; have z20 := L.z20; have v20 := L.v20
  have t83 := L.t83; have a83 := L.a83; have z83 := L.z83; have v83 := L.v83
  have t101 := L.t101; have a101 := L.a101; have z101 := L.z101; have v101 := L.v101
  have t103 := L.t103; have a103 := L.a103; have z103 := L.z103; have v103 := L.v103
  have t107 := L.t107; have a107 := L.a107; have z107 := L.z107; have v107 := L.v107
  have u107 := run_underlying L.t107
  have hv := run_valueOf_slice (P := P) 27 59 i hi hd p n c w
  have hs := fun w => run_swapper_slice (P := P) 27 59 i ie hi hd hie ke hke p n c f hf w
  unfold bound at hp
  generalize (if swapperK n ie ke ≤ 2 then (#[] : Array Value) else #[.slice p n c, typeHandle P 59]) = Bd at hs hp
  have HS := Ls.mk hs
  have hl := fun a w ha => run_valueLen_slice (P := P) 27 59 i hi hd hpk a p n c w ha
  simp only [typeHandle] at hv hl
  have HV := Ls.mk hv
  have HL := Ls.mk hl
  have HP := Ls.mk hp
  have F78 := L.f78; have F79 := L.f79; have F81 := L.f81
  have e80 : ∀ args w, (callFunc 80 args).run P w = .ok (.enter 80 args) w := Go.Proofs.enters_of L.f80 (by kernel_rfl) rfl
  clear hp hi hd hpk hie hke hf hv hl hs
  go_enter L.f56, Tryz.ntmps56
  go_wp2
  rw [run_callFunc_extern F78 (by kernel_rfl) (by kernel_rfl) (by kernel_rfl) (e := fun args => Extern.ReflectliteValue.unpack (args.getD 0 (.tuple #[]))) (by kernel_rfl),
    show Sem.run P ((fun args : Array Value => Extern.ReflectliteValue.unpack (args.getD 0 (.tuple #[]))) #[.iface 27 (.slice p n c)]) w = _ from HV.out]
  simp only [Result.andThen]
  rw [Oper.upon_value]
  go_wp2
  rw [run_callFunc_extern F79 (by kernel_rfl) (by kernel_rfl) (by kernel_rfl) (e := Extern.ReflectliteSwapper.swapper "internal/reflectlite" (Extern.ReflectliteValue.valueError "Swapper")) (by kernel_rfl), HS.out]
  simp only [Result.andThen]
  rw [Oper.upon_value]
  go_wp2
  rw [run_callFunc_extern F81 (by kernel_rfl) (by kernel_rfl) (by kernel_rfl) (e := Extern.ReflectliteValue.method (Extern.ReflectliteValue.valueError "reflectlite.Value.Len" 0) Extern.ReflectliteValue.len) (by kernel_rfl),
    HL.out _ _ (by simp)]
  simp only [Result.andThen]
  rw [Oper.upon_value]
  go_wp2_with (fail)
  refine HP.out.mono ?_
  rintro en w3 ⟨rfl, hR⟩
  have HR := Ls.mk hR
  clear hR
  go_wp2
  go_end0
  exact ⟨rfl, HR.out⟩
end Go.Proofs.YtdfbgpmjmndnoaaGreat.R
