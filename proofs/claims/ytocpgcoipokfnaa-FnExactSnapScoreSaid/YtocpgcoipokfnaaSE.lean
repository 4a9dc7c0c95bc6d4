/- The library's SliceStable on few notes. -/
import Derived.Test.YtocpgcoipokfnaaSD
set_option linter.unusedVariables false
set_option linter.unusedSimpArgs false
namespace Go.Proofs.Ytocpgcoipokfnaa.R
open Go.RowKit Go.Lib
structure Lay2 (P : Program) : Prop extends Lay P where
  t20 : P.underlying 20 = some (TypeDesc.interface #[])
  a20 : ∀ w, (isAgg 20).run P w = .ok false w
  z20 : ∀ w, (Go.sizeOf 20).run P w = .ok 1 w
  v20 : ∀ w, (zeroValue 20).run P w = .ok (Value.nilIface) w
  t60 : P.underlying 60 = some (TypeDesc.struct #[{ name := "typ_", type := 17, offset := 0, embedded := false, tag := "", pkgPath := "internal/reflectlite", byteOffset := 0 }, { name := "ptr", type := 57, offset := 1, embedded := false, tag := "", pkgPath := "internal/reflectlite", byteOffset := 8 }, { name := "flag", type := 58, offset := 2, embedded := true, tag := "", pkgPath := "internal/reflectlite", byteOffset := 16 }])
  a60 : ∀ w, (isAgg 60).run P w = .ok true w
  z60 : ∀ w, (Go.sizeOf 60).run P w = .ok 3 w
  v60 : ∀ w, (zeroValue 60).run P w = .ok (Value.agg #[Value.pointer none, Value.pointer none, Value.int IntKind.u64 0]) w
  f45 : P.funcs[45]? = some Try.f45
  f48 : P.funcs[48]? = some Try.f48
  f49 : P.funcs[49]? = some Try.f49
  f51 : P.funcs[51]? = some Try.f51
theorem lay2_try : Lay2 Try.prog :=
  ⟨lay_try, by kernel_rfl, fun _ => by kernel_rfl, fun _ => by kernel_rfl, fun _ => by kernel_rfl, by kernel_rfl, fun _ => by kernel_rfl, fun _ => by kernel_rfl, fun _ => by kernel_rfl, Try.func45, Try.func48, Try.func49, Try.func51⟩
@[reducible] def bound (P : Program) (ie : TypeInfo) (ke n : Nat) (v : Value) : Array Value := if swapperK n ie ke ≤ 2 then #[] else #[v, typeHandle P 38]
@[reducible] def world2 (P : Program) (v : Value) (w : World) : World :=
  (w.alloc (.cells #[v] 27)).alloc (.cells #[.pointer (some ⟨P.globals.size, 27, none⟩), .pointer (some ⟨w.heap.size, 0, none⟩), .int .u64 151] 60)
set_option maxHeartbeats 8000000 in
set_option maxRecDepth 100000 in
theorem slice45 {P : Program} (L : Lay2 P) (i ie : TypeInfo) (hi : P.info? 27 = some i) (hd : i.desc = .slice 38) (hpk : P.packed 27 = false) (hie : P.info? 38 = some ie) (ke : Nat) (hke : ∀ w, (Extern.Rtype.kind 38).run P w = .ok ke w)
    (p : Option Addr) (n c : Nat) (f : Nat) (hf : P.funcs.findIdx? (·.name == "internal/reflectlite" ++ ".Swapper$" ++ toString (swapperK n ie ke)) = some f) (l : Value) (hl : ∃ g lb, l = .func (.func g) #[] lb) (w : World) (R : World → Prop)
    (hp : Calls P 50 #[.agg #[l, .func (.func f) #[] (bound P ie ke n (.slice p n c))], .int .i64 n] (world2 P (.slice p n c) w) fun e w' => e = .returned (.tuple #[]) ∧ R w') :
    Calls P 45 #[.iface 27 (.slice p n c), l] w fun e w' => e = .returned (.tuple #[]) ∧ R w' := by
  obtain ⟨g, lb, rfl⟩ := hl
  have mixed := L.mixed
  have t0 := L.t0; have a0 := L.a0; have z0 := L.z0; have v0 := L.v0
  have t3 := L.t3; have a3 := L.a3; have z3 := L.z3; have v3 := L.v3
  have t4 := L.t4; have a4 := L.a4; have z4 := L.z4; have v4 := L.v4
  have t20 := L.t20; have a20 := L.a20; have z20 := L.z20; have v20 := L.v20
  have t56 := L.t56; have a56 := L.a56; have z56 := L.z56; have v56 := L.v56
  have t60 := L.t60; have a60 := L.a60; have z60 := L.z60; have v60 := L.v60
  have t62 := L.t62; have a62 := L.a62; have z62 := L.z62; have v62 := L.v62
  have t66 := L.t66; have a66 := L.a66; have z66 := L.z66; have v66 := L.v66
  have u66 := run_underlying L.t66
  have hv := run_valueOf_slice (P := P) 27 38 i hi hd p n c w
  have hs := fun w => run_swapper_slice (P := P) 27 38 i ie hi hd hie ke hke p n c f hf w
  unfold bound at hp
  generalize (if swapperK n ie ke ≤ 2 then (#[] : Array Value) else #[.slice p n c, typeHandle P 38]) = Bd at hs hp
  have HS := Ls.mk hs
  have hl := fun a w ha => run_valueLen_slice (P := P) 27 38 i hi hd hpk a p n c w ha
  simp only [typeHandle] at hv hl
  have HV := Ls.mk hv
  have HL := Ls.mk hl
  have HP := Ls.mk hp
  have F48 := L.f48; have F49 := L.f49; have F51 := L.f51
  have e50 : ∀ args w, (callFunc 50 args).run P w = .ok (.enter 50 args) w := Go.Proofs.enters_of L.f50 (by kernel_rfl) rfl
  clear hp hi hd hpk hie hke hf hv hl hs
  go_enter L.f45, Try.ntmps45
  go_wp2
  rw [run_callFunc_extern F48 (by kernel_rfl) (by kernel_rfl) (by kernel_rfl) (e := fun args => Extern.ReflectliteValue.unpack (args.getD 0 (.tuple #[]))) (by kernel_rfl),
    show Sem.run P ((fun args : Array Value => Extern.ReflectliteValue.unpack (args.getD 0 (.tuple #[]))) #[.iface 27 (.slice p n c)]) w = _ from HV.out]
  simp only [Result.andThen]
  rw [Oper.upon_value]
  go_wp2
  rw [run_callFunc_extern F49 (by kernel_rfl) (by kernel_rfl) (by kernel_rfl) (e := Extern.ReflectliteSwapper.swapper "internal/reflectlite" (Extern.ReflectliteValue.valueError "Swapper")) (by kernel_rfl), HS.out]
  simp only [Result.andThen]
  rw [Oper.upon_value]
  go_wp2
  rw [run_callFunc_extern F51 (by kernel_rfl) (by kernel_rfl) (by kernel_rfl) (e := Extern.ReflectliteValue.method (Extern.ReflectliteValue.valueError "reflectlite.Value.Len" 0) Extern.ReflectliteValue.len) (by kernel_rfl),
    HL.out _ _ (by simp)]
  simp only [Result.andThen]
  rw [Oper.upon_value]
  go_wp2_with (fail)
  refine HP.out.mono ?_
  rintro en w3 ⟨rfl, hR⟩
  have HR := Ls.mk hR
  clear hR
  go_wp2
  go_end0
  exact ⟨rfl, HR.out⟩
end Go.Proofs.Ytocpgcoipokfnaa.R
