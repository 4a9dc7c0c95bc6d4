/- The library's SliceStable on few notes. -/
import Derived.Test.YteddiiglonneeaaGreatSD
set_option linter.unusedVariables false
set_option linter.unusedSimpArgs false
namespace Go.Proofs.YteddiiglonneeaaGreat.R
open Go.RowKit Go.Lib
structure Lay2 (P : Program) : Prop extends Lay P where
  t20 : P.underlying 20 = some (TypeDesc.interface #[])
  a20 : ∀ w, (isAgg 20).run P w = .ok false w
  z20 : ∀ w, (Go.sizeOf 20).run P w = .ok 1 w
  v20 : ∀ w, (zeroValue 20).run P w = .ok (Value.nilIface) w
  t84 : P.underlying 84 = some (TypeDesc.struct #[{ name := "typ_", type := 17, offset := 0, embedded := false, tag := "", pkgPath := "internal/reflectlite", byteOffset := 0 }, { name := "ptr", type := 81, offset := 1, embedded := false, tag := "", pkgPath := "internal/reflectlite", byteOffset := 8 }, { name := "flag", type := 82, offset := 2, embedded := true, tag := "", pkgPath := "internal/reflectlite", byteOffset := 16 }])
  a84 : ∀ w, (isAgg 84).run P w = .ok true w
  z84 : ∀ w, (Go.sizeOf 84).run P w = .ok 3 w
  v84 : ∀ w, (zeroValue 84).run P w = .ok (Value.agg #[Value.pointer none, Value.pointer none, Value.int IntKind.u64 0]) w
  f67 : P.funcs[67]? = some Tryz.f67
  f73 : P.funcs[73]? = some Tryz.f73
  f74 : P.funcs[74]? = some Tryz.f74
  f76 : P.funcs[76]? = some Tryz.f76
theorem lay2_try : Lay2 Tryz.prog :=
  ⟨lay_try, by kernel_rfl, fun _ => by kernel_rfl, fun _ => by kernel_rfl, fun _ => by kernel_rfl, by kernel_rfl, fun _ => by kernel_rfl, fun _ => by kernel_rfl, fun _ => by kernel_rfl, Tryz.func67, Tryz.func73, Tryz.func74, Tryz.func76⟩
@[reducible] def bound (P : Program) (ie : TypeInfo) (ke n : Nat) (v : Value) : Array Value := if swapperK n ie ke ≤ 2 then #[] else #[v, typeHandle P 44]
@[reducible] def world2 (P : Program) (v : Value) (w : World) : World :=
  (w.alloc (.cells #[v] 23)).alloc (.cells #[.pointer (some ⟨P.globals.size, 23, none⟩), .pointer (some ⟨w.heap.size, 0, none⟩), .int .u64 151] 84)
set_option maxHeartbeats 8000000 in
set_option maxRecDepth 100000 in
theorem slice67 {P : Program} (L : Lay2 P) (i ie : TypeInfo) (hi : P.info? 23 = some i) (hd : i.desc = .slice 44) (hpk : P.packed 23 = false) (hie : P.info? 44 = some ie) (ke : Nat) (hke : ∀ w, (Extern.Rtype.kind 44).run P w = .ok ke w)
    (p : Option Addr) (n c : Nat) (f : Nat) (hf : P.funcs.findIdx? (·.name == "internal/reflectlite" ++ ".Swapper$" ++ toString (swapperK n ie ke)) = some f) (l : Value) (hl : ∃ g lb, l = .func (.func g) #[] lb) (w : World) (R : World → Prop)
    (hp : Calls P 75 #[.agg #[l, .func (.func f) #[] (bound P ie ke n (.slice p n c))], .int .i64 n] (world2 P (.slice p n c) w) fun e w' => e = .returned (.tuple #[]) ∧ R w') :
    Calls P 67 #[.iface 23 (.slice p n c), l] w fun e w' => e = .returned (.tuple #[]) ∧ R w' := by
  obtain ⟨g, lb, rfl⟩ := hl
  have mixed := L.mixed
  have t0 := L.t0; have a0 := L.a0; have z0 := L.z0; have v0 := L.v0
  have t3 := L.t3; have a3 := L.a3; have z3 := L.z3; have v3 := L.v3
  have t4 := L.t4; have a4 := L.a4; have z4 := L.z4; have v4 := L.v4
  have t20 := L.t20; have a20 := L.a20; have z20 := L.z20; have v20 := L.v20
  have t76 := L.t76; have a76 := L.a76; have z76 := L.z76; have v76 := L.v76
  have t84 := L.t84; have a84 := L.a84; have z84 := L.z84; have v84 := L.v84
  have t86 := L.t86; have a86 := L.a86; have z86 := L.z86; have v86 := L.v86
  have t90 := L.t90; have a90 := L.a90; have z90 := L.z90; have v90 := L.v90
  have u90 := run_underlying L.t90
  have hv := run_valueOf_slice (P := P) 23 44 i hi hd p n c w
  have hs := fun w => run_swapper_slice (P := P) 23 44 i ie hi hd hie ke hke p n c f hf w
  unfold bound at hp
  generalize (if swapperK n ie ke ≤ 2 then (#[] : Array Value) else #[.slice p n c, typeHandle P 44]) = Bd at hs hp
  have HS := Ls.mk hs
  have hl := fun a w ha => run_valueLen_slice (P := P) 23 44 i hi hd hpk a p n c w ha
  simp only [typeHandle] at hv hl
  have HV := Ls.mk hv
  have HL := Ls.mk hl
  have HP := Ls.mk hp
  have F73 := L.f73; have F74 := L.f74; have F76 := L.f76
  have e75 : ∀ args w, (callFunc 75 args).run P w = .ok (.enter 75 args) w := Go.Proofs.enters_of L.f75 (by kernel_rfl) rfl
  clear hp hi hd hpk hie hke hf hv hl hs
  go_enter L.f67, Tryz.ntmps67
  go_wp2
  rw [run_callFunc_extern F73 (by kernel_rfl) (by kernel_rfl) (by kernel_rfl) (e := fun args => Extern.ReflectliteValue.unpack (args.getD 0 (.tuple #[]))) (by kernel_rfl),
    show Sem.run P ((fun args : Array Value => Extern.ReflectliteValue.unpack (args.getD 0 (.tuple #[]))) #[.iface 23 (.slice p n c)]) w = _ from HV.out]
  simp only [Result.andThen]
  rw [Oper.upon_value]
  go_wp2
  rw [run_callFunc_extern F74 (by kernel_rfl) (by kernel_rfl) (by kernel_rfl) (e := Extern.ReflectliteSwapper.swapper "internal/reflectlite" (Extern.ReflectliteValue.valueError "Swapper")) (by kernel_rfl), HS.out]
  simp only [Result.andThen]
  rw [Oper.upon_value]
  go_wp2
  rw [run_callFunc_extern F76 (by kernel_rfl) (by kernel_rfl) (by kernel_rfl) (e := Extern.ReflectliteValue.method (Extern.ReflectliteValue.valueError "reflectlite.Value.Len" 0) Extern.ReflectliteValue.len) (by kernel_rfl),
    HL.out _ _ (by simp)]
  simp only [Result.andThen]
  rw [Oper.upon_value]
  go_wp2_with (fail)
  refine HP.out.mono ?_
  rintro en w3 ⟨rfl, hR⟩
  have HR := Ls.mk hR
  clear hR
  go_wp2
  go_end0
  exact ⟨rfl, HR.out⟩
end Go.Proofs.YteddiiglonneeaaGreat.R
