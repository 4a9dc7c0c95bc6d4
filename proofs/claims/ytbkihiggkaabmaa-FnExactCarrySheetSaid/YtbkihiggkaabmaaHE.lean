/- The library's SliceStable on few notes. -/
import Derived.Test.YtbkihiggkaabmaaHD
set_option linter.unusedVariables false
set_option linter.unusedSimpArgs false
namespace Go.Proofs.Ytbkihiggkaabmaa.R
open Go.RowKit Go.Lib
structure Lay2 (P : Program) : Prop extends Lay P where
  t20 : P.underlying 20 = some (TypeDesc.interface #[])
  a20 : ∀ w, (isAgg 20).run P w = .ok false w
  z20 : ∀ w, (Go.sizeOf 20).run P w = .ok 1 w
  v20 : ∀ w, (zeroValue 20).run P w = .ok (Value.nilIface) w
  t214 : P.underlying 214 = some (TypeDesc.struct #[{ name := "typ_", type := 17, offset := 0, embedded := false, tag := "", pkgPath := "internal/reflectlite", byteOffset := 0 }, { name := "ptr", type := 211, offset := 1, embedded := false, tag := "", pkgPath := "internal/reflectlite", byteOffset := 8 }, { name := "flag", type := 212, offset := 2, embedded := true, tag := "", pkgPath := "internal/reflectlite", byteOffset := 16 }])
  a214 : ∀ w, (isAgg 214).run P w = .ok true w
  z214 : ∀ w, (Go.sizeOf 214).run P w = .ok 3 w
  v214 : ∀ w, (zeroValue 214).run P w = .ok (Value.agg #[Value.pointer none, Value.pointer none, Value.int IntKind.u64 0]) w
  f234 : P.funcs[234]? = some Try.f234
  f273 : P.funcs[273]? = some Try.f273
  f274 : P.funcs[274]? = some Try.f274
  f276 : P.funcs[276]? = some Try.f276
theorem lay2_try : Lay2 Try.prog :=
  ⟨lay_try, by kernel_rfl, fun _ => by kernel_rfl, fun _ => by kernel_rfl, fun _ => by kernel_rfl, by kernel_rfl, fun _ => by kernel_rfl, fun _ => by kernel_rfl, fun _ => by kernel_rfl, Try.func234, Try.func273, Try.func274, Try.func276⟩
@[reducible] def bound (P : Program) (ie : TypeInfo) (ke n : Nat) (v : Value) : Array Value := if swapperK n ie ke ≤ 2 then #[] else #[v, typeHandle P 144]
@[reducible] def world2 (P : Program) (v : Value) (w : World) : World :=
  (w.alloc (.cells #[v] 58)).alloc (.cells #[.pointer (some ⟨P.globals.size, 58, none⟩), .pointer (some ⟨w.heap.size, 0, none⟩), .int .u64 151] 214)
set_option maxHeartbeats 8000000 in
set_option maxRecDepth 100000 in
theorem slice234 {P : Program} (L : Lay2 P) (i ie : TypeInfo) (hi : P.info? 58 = some i) (hd : i.desc = .slice 144) (hpk : P.packed 58 = false) (hie : P.info? 144 = some ie) (ke : Nat) (hke : ∀ w, (Extern.Rtype.kind 144).run P w = .ok ke w)
    (p : Option Addr) (n c : Nat) (f : Nat) (hf : P.funcs.findIdx? (·.name == "internal/reflectlite" ++ ".Swapper$" ++ toString (swapperK n ie ke)) = some f) (l : Value) (hl : ∃ g lb, l = .func (.func g) #[] lb) (w : World) (R : World → Prop)
    (hp : Calls P 275 #[.agg #[l, .func (.func f) #[] (bound P ie ke n (.slice p n c))], .int .i64 n] (world2 P (.slice p n c) w) fun e w' => e = .returned (.tuple #[]) ∧ R w') :
    Calls P 234 #[.iface 58 (.slice p n c), l] w fun e w' => e = .returned (.tuple #[]) ∧ R w' := by
  obtain ⟨g, lb, rfl⟩ := hl
  have mixed := L.mixed
  have t0 := L.t0; have a0 := L.a0; have z0 := L.z0; have v0 := L.v0
  have t3 := L.t3; have a3 := L.a3; have z3 := L.z3; have v3 := L.v3
  have t4 := L.t4; have a4 := L.a4; have z4 := L.z4; have v4 := L.v4
  have t20 := L.t20; have a20 := L.a20; have z20 := L.z20; have v20 := L.v20
  have t188 := L.t188; have a188 := L.a188; have z188 := L.z188; have v188 := L.v188
  have t214 := L.t214; have a214 := L.a214; have z214 := L.z214; have v214 := L.v214
  have t216 := L.t216; have a216 := L.a216; have z216 := L.z216; have v216 := L.v216
  have t220 := L.t220; have a220 := L.a220; have z220 := L.z220; have v220 := L.v220
  have u220 := run_underlying L.t220
  have hv := run_valueOf_slice (P := P) 58 144 i hi hd p n c w
  have hs := fun w => run_swapper_slice (P := P) 58 144 i ie hi hd hie ke hke p n c f hf w
  unfold bound at hp
  generalize (if swapperK n ie ke ≤ 2 then (#[] : Array Value) else #[.slice p n c, typeHandle P 144]) = Bd at hs hp
  have HS := Ls.mk hs
  have hl := fun a w ha => run_valueLen_slice (P := P) 58 144 i hi hd hpk a p n c w ha
  simp only [typeHandle] at hv hl
  have HV := Ls.mk hv
  have HL := Ls.mk hl
  have HP := Ls.mk hp
  have F273 := L.f273; have F274 := L.f274; have F276 := L.f276
  have e275 : ∀ args w, (callFunc 275 args).run P w = .ok (.enter 275 args) w := Go.Proofs.enters_of L.f275 (by kernel_rfl) rfl
  clear hp hi hd hpk hie hke hf hv hl hs
  go_enter L.f234, Try.ntmps234
  go_wp2
  rw [run_callFunc_extern F273 (by kernel_rfl) (by kernel_rfl) (by kernel_rfl) (e := fun args => Extern.ReflectliteValue.unpack (args.getD 0 (.tuple #[]))) (by kernel_rfl),
    show Sem.run P ((fun args : Array Value => Extern.ReflectliteValue.unpack (args.getD 0 (.tuple #[]))) #[.iface 58 (.slice p n c)]) w = _ from HV.out]
  simp only [Result.andThen]
  rw [Oper.upon_value]
  go_wp2
  rw [run_callFunc_extern F274 (by kernel_rfl) (by kernel_rfl) (by kernel_rfl) (e := Extern.ReflectliteSwapper.swapper "internal/reflectlite" (Extern.ReflectliteValue.valueError "Swapper")) (by kernel_rfl), HS.out]
  simp only [Result.andThen]
  rw [Oper.upon_value]
  go_wp2
  rw [run_callFunc_extern F276 (by kernel_rfl) (by kernel_rfl) (by kernel_rfl) (e := Extern.ReflectliteValue.method (Extern.ReflectliteValue.valueError "reflectlite.Value.Len" 0) Extern.ReflectliteValue.len) (by kernel_rfl),
    HL.out _ _ (by simp)]
  simp only [Result.andThen]
  rw [Oper.upon_value]
  go_wp2_with (fail)
  refine HP.out.mono ?_
  rintro en w3 ⟨rfl, hR⟩
  have HR := Ls.mk hR
  clear hR
  go_wp2
  go_end0
  exact ⟨rfl, HR.out⟩
end Go.Proofs.Ytbkihiggkaabmaa.R
