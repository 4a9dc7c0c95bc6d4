/- The library's SliceStable on few notes. -/
import Derived.Test.YthkofipgondalaaSD
set_option linter.unusedVariables false
set_option linter.unusedSimpArgs false
namespace Go.Proofs.Ythkofipgondalaa.R
open Go.RowKit Go.Lib
structure Lay2 (P : Program) : Prop extends Lay P where
  t20 : P.underlying 20 = some (TypeDesc.interface #[])
  a20 : ∀ w, (isAgg 20).run P w = .ok false w
  z20 : ∀ w, (Go.sizeOf 20).run P w = .ok 1 w
  v20 : ∀ w, (zeroValue 20).run P w = .ok (Value.nilIface) w
  t159 : P.underlying 159 = some (TypeDesc.struct #[{ name := "typ_", type := 17, offset := 0, embedded := false, tag := "", pkgPath := "internal/reflectlite", byteOffset := 0 }, { name := "ptr", type := 156, offset := 1, embedded := false, tag := "", pkgPath := "internal/reflectlite", byteOffset := 8 }, { name := "flag", type := 157, offset := 2, embedded := true, tag := "", pkgPath := "internal/reflectlite", byteOffset := 16 }])
  a159 : ∀ w, (isAgg 159).run P w = .ok true w
  z159 : ∀ w, (Go.sizeOf 159).run P w = .ok 3 w
  v159 : ∀ w, (zeroValue 159).run P w = .ok (Value.agg #[Value.pointer none, Value.pointer none, Value.int IntKind.u64 0]) w
  f163 : P.funcs[163]? = some Try.f163
  f176 : P.funcs[176]? = some Try.f176
  f177 : P.funcs[177]? = some Try.f177
  f179 : P.funcs[179]? = some Try.f179
theorem lay2_try : Lay2 Try.prog :=
  ⟨lay_try, by kernel_rfl, fun _ => by kernel_rfl, fun _ => by kernel_rfl, fun _ => by kernel_rfl, by kernel_rfl, fun _ => by kernel_rfl, fun _ => by kernel_rfl, fun _ => by kernel_rfl, Try.func163, Try.func176, Try.func177, Try.func179⟩
@[reducible] def bound (P : Program) (ie : TypeInfo) (ke n : Nat) (v : Value) : Array Value := if swapperK n ie ke ≤ 2 then #[] else #[v, typeHandle P 85]
@[reducible] def world2 (P : Program) (v : Value) (w : World) : World :=
  (w.alloc (.cells #[v] 27)).alloc (.cells #[.pointer (some ⟨P.globals.size, 27, none⟩), .pointer (some ⟨w.heap.size, 0, none⟩), .int .u64 151] 159)
set_option maxHeartbeats 8000000 in
set_option maxRecDepth 100000 in
theorem slice163 {P : Program} (L : Lay2 P) (i ie : TypeInfo) (hi : P.info? 27 = some i) (hd : i.desc = .slice 85) (hpk : P.packed 27 = false) (hie : P.info? 85 = some ie) (ke : Nat) (hke : ∀ w, (Extern.Rtype.kind 85).run P w = .ok ke w)
    (p : Option Addr) (n c : Nat) (f : Nat) (hf : P.funcs.findIdx? (·.name == "internal/reflectlite" ++ ".Swapper$" ++ toString (swapperK n ie ke)) = some f) (l : Value) (hl : ∃ g lb, l = .func (.func g) #[] lb) (w : World) (R : World → Prop)
    (hp : Calls P 178 #[.agg #[l, .func (.func f) #[] (bound P ie ke n (.slice p n c))], .int .i64 n] (world2 P (.slice p n c) w) fun e w' => e = .returned (.tuple #[]) ∧ R w') :
    Calls P 163 #[.iface 27 (.slice p n c), l] w fun e w' => e = .returned (.tuple #[]) ∧ R w' := by
  obtain ⟨g, lb, rfl⟩ := hl
  have mixed := L.mixed
  have t0 := L.t0; have a0 := L.a0; have z0 := L.z0; have v0 := L.v0
  have t3 := L.t3; have a3 := L.a3; have z3 := L.z3; have v3 := L.v3
  have t4 := L.t4; have a4 := L.a4; have z4 := L.z4; have v4 := L.v4
  have t20 := L.t20; have a20 := L.a20; have z20 := L.z20; have v20 := L.v20
  have t149 := L.t149; have a149 := L.a149; have z149 := L.z149; have v149 := L.v149
  have t159 := L.t159; have a159 := L.a159; have z159 := L.z159; have v159 := L.v159
  have t161 := L.t161; have a161 := L.a161; have z161 := L.z161; have v161 := L.v161
  have t165 := L.t165; have a165 := L.a165; have z165 := L.z165; have v165 := L.v165
  have u165 := run_underlying L.t165
  have hv := run_valueOf_slice (P := P) 27 85 i hi hd p n c w
  have hs := fun w => run_swapper_slice (P := P) 27 85 i ie hi hd hie ke hke p n c f hf w
  unfold bound at hp
  generalize (if swapperK n ie ke ≤ 2 then (#[] : Array Value) else #[.slice p n c, typeHandle P 85]) = Bd at hs hp
  have HS := Ls.mk hs
  have hl := fun a w ha => run_valueLen_slice (P := P) 27 85 i hi hd hpk a p n c w ha
  simp only [typeHandle] at hv hl
  have HV := Ls.mk hv
  have HL := Ls.mk hl
  have HP := Ls.mk hp
  have F176 := L.f176; have F177 := L.f177; have F179 := L.f179
  have e178 : ∀ args w, (callFunc 178 args).run P w = .ok (.enter 178 args) w := Go.Proofs.enters_of L.f178 (by kernel_rfl) rfl
  clear hp hi hd hpk hie hke hf hv hl hs
  go_enter L.f163, Try.ntmps163
  go_wp2
  rw [run_callFunc_extern F176 (by kernel_rfl) (by kernel_rfl) (by kernel_rfl) (e := fun args => Extern.ReflectliteValue.unpack (args.getD 0 (.tuple #[]))) (by kernel_rfl),
    show Sem.run P ((fun args : Array Value => Extern.ReflectliteValue.unpack (args.getD 0 (.tuple #[]))) #[.iface 27 (.slice p n c)]) w = _ from HV.out]
  simp only [Result.andThen]
  rw [Oper.upon_value]
  go_wp2
  rw [run_callFunc_extern F177 (by kernel_rfl) (by kernel_rfl) (by kernel_rfl) (e := Extern.ReflectliteSwapper.swapper "internal/reflectlite" (Extern.ReflectliteValue.valueError "Swapper")) (by kernel_rfl), HS.out]
  simp only [Result.andThen]
  rw [Oper.upon_value]
  go_wp2
  rw [run_callFunc_extern F179 (by kernel_rfl) (by kernel_rfl) (by kernel_rfl) (e := Extern.ReflectliteValue.method (Extern.ReflectliteValue.valueError "reflectlite.Value.Len" 0) Extern.ReflectliteValue.len) (by kernel_rfl),
    HL.out _ _ (by simp)]
  simp only [Result.andThen]
  rw [Oper.upon_value]
  go_wp2_with (fail)
  refine HP.out.mono ?_
  rintro en w3 ⟨rfl, hR⟩
  have HR := Ls.mk hR
  clear hR
  go_wp2
  go_end0
  exact ⟨rfl, HR.out⟩
end Go.Proofs.Ythkofipgondalaa.R
