/- The library's SliceStable on few notes. -/
import Derived.Test.YtnkgglghjohdjaaGreatTD
set_option linter.unusedVariables false
set_option linter.unusedSectionVars false
set_option linter.unusedSimpArgs false
namespace Go.Proofs.YtnkgglghjohdjaaGreat.R
open Go.RowKit Go.Lib
section
variable [En : Enc]
structure Lay2 (P : Program) : Prop extends Lay P where
 t20 : P.underlying 20 = some (TypeDesc.interface #[])
 a20 : ∀ w, (isAgg 20).run P w = .ok false w
 z20 : ∀ w, (Go.sizeOf 20).run P w = .ok 1 w
 v20 : ∀ w, (zeroValue 20).run P w = .ok (Value.nilIface) w
 t152 : P.underlying 152 = some (TypeDesc.struct #[{ name := "typ_", type := 17, offset := 0, embedded := false, tag := "", pkgPath := "internal/reflectlite", byteOffset := 0 }, { name := "ptr", type := 149, offset := 1, embedded := false, tag := "", pkgPath := "internal/reflectlite", byteOffset := 8 }, { name := "flag", type := 150, offset := 2, embedded := true, tag := "", pkgPath := "internal/reflectlite", byteOffset := 16 }])
 a152 : ∀ w, (isAgg 152).run P w = .ok true w
 z152 : ∀ w, (Go.sizeOf 152).run P w = .ok 3 w
 v152 : ∀ w, (zeroValue 152).run P w = .ok (Value.agg #[Value.pointer none, Value.pointer none, Value.int IntKind.u64 0]) w
 f108 : P.funcs[108]? = some Tryz.f108
 f142 : P.funcs[142]? = some Tryz.f142
 f143 : P.funcs[143]? = some Tryz.f143
 f145 : P.funcs[145]? = some Tryz.f145
theorem lay2_try : Lay2 Tryz.prog :=
 ⟨lay_try, by kernel_rfl, fun _ => by kernel_rfl, fun _ => by kernel_rfl, fun _ => by kernel_rfl, by kernel_rfl, fun _ => by kernel_rfl, fun _ => by kernel_rfl, fun _ => by kernel_rfl, Tryz.func108, Tryz.func142, Tryz.func143, Tryz.func145⟩
@[reducible] def bound (P : Program) (E : TypeId) (ie : TypeInfo) (ke n : Nat) (v : Value) : Array Value := if swapperK n ie ke ≤ 2 then #[] else #[v, typeHandle P E]
@[reducible] def world2 (P : Program) (S : TypeId) (v : Value) (w : World) : World :=
 (w.alloc (.cells #[v] S)).alloc (.cells #[.pointer (some ⟨P.globals.size, S, none⟩), .pointer (some ⟨w.heap.size, 0, none⟩), .int .u64 151] 152)
set_option maxHeartbeats 8000000 in
set_option maxRecDepth 100000 in
theorem slice108 {P : Program} (L : Lay2 P) {S E : TypeId} (i ie : TypeInfo) (hi : P.info? S = some i) (hd : i.desc = .slice E) (hpk : P.packed S = false) (hie : P.info? E = some ie) (ke : Nat) (hke : ∀ w, (Extern.Rtype.kind E).run P w = .ok ke w)
  (p : Option Addr) (n c : Nat) (f : Nat) (hf : P.funcs.findIdx? (·.name == "internal/reflectlite" ++ ".Swapper$" ++ toString (swapperK n ie ke)) = some f) (l : Value) (hl : ∃ g lb, l = .func (.func g) #[] lb) (w : World) (R : World → Prop)
  (hp : Calls P 144 #[.agg #[l, .func (.func f) #[] (bound P E ie ke n (.slice p n c))], .int .i64 n] (world2 P S (.slice p n c) w) fun e w' => e = .returned (.tuple #[]) ∧ R w') :
  Calls P 108 #[.iface S (.slice p n c), l] w fun e w' => e = .returned (.tuple #[]) ∧ R w' := by
 obtain ⟨g, lb, rfl⟩ := hl
 have mixed := L.mixed
 have t0 := L.t0; have a0 := L.a0; have z0 := L.z0; have v0 := L.v0
 have t3 := L.t3; have a3 := L.a3; have z3 := L.z3; have v3 := L.v3
 have t4 := L.t4; have a4 := L.a4; have z4 := L.z4; have v4 := L.v4
 have t20 := L.t20; have a20 := L.a20; have z20 := L.z20; have v20 := L.v20
 have t130 := L.t130; have a130 := L.a130; have z130 := L.z130; have v130 := L.v130
 have t152 := L.t152; have a152 := L.a152; have z152 := L.z152; have v152 := L.v152
 have t154 := L.t154; have a154 := L.a154; have z154 := L.z154; have v154 := L.v154
 have t158 := L.t158; have a158 := L.a158; have z158 := L.z158; have v158 := L.v158
 have u158 := run_underlying L.t158
 have hv := run_valueOf_slice (P := P) S E i hi hd p n c w
 have hs := fun w => run_swapper_slice (P := P) S E i ie hi hd hie ke hke p n c f hf w
 unfold bound at hp
 generalize (if swapperK n ie ke ≤ 2 then (#[] : Array Value) else #[.slice p n c, typeHandle P E]) = Bd at hs hp
 have HS := Ls.mk hs
 have hl := fun a w ha => run_valueLen_slice (P := P) S E i hi hd hpk a p n c w ha
 simp only [typeHandle] at hv hl
 have HV := Ls.mk hv
 have HL := Ls.mk hl
 have HP := Ls.mk hp
 have F142 := L.f142; have F143 := L.f143; have F145 := L.f145
 have e144 : ∀ args w, (callFunc 144 args).run P w = .ok (.enter 144 args) w := Go.Proofs.enters_of L.f144 (by kernel_rfl) rfl
 clear hp hi hd hpk hie hke hf hv hl hs
 go_enter L.f108, Tryz.ntmps108
 go_wp2
 rw [run_callFunc_extern F142 (by kernel_rfl) (by kernel_rfl) (by kernel_rfl) (e := fun args => Extern.ReflectliteValue.unpack (args.getD 0 (.tuple #[]))) (by kernel_rfl),
  show Sem.run P ((fun args : Array Value => Extern.ReflectliteValue.unpack (args.getD 0 (.tuple #[]))) #[.iface S (.slice p n c)]) w = _ from HV.out]
 simp only [Result.andThen]
 rw [Oper.upon_value]
 go_wp2
 rw [run_callFunc_extern F143 (by kernel_rfl) (by kernel_rfl) (by kernel_rfl) (e := Extern.ReflectliteSwapper.swapper "internal/reflectlite" (Extern.ReflectliteValue.valueError "Swapper")) (by kernel_rfl), HS.out]
 simp only [Result.andThen]
 rw [Oper.upon_value]
 go_wp2
 rw [run_callFunc_extern F145 (by kernel_rfl) (by kernel_rfl) (by kernel_rfl) (e := Extern.ReflectliteValue.method (Extern.ReflectliteValue.valueError "reflectlite.Value.Len" 0) Extern.ReflectliteValue.len) (by kernel_rfl),
  HL.out _ _ (by simp)]
 simp only [Result.andThen]
 rw [Oper.upon_value]
 go_wp2_with (fail)
 refine HP.out.mono ?_
 rintro en w3 ⟨rfl, hR⟩
 have HR := Ls.mk hR
 clear hR
 go_wp2
 go_end0
 exact ⟨rfl, HR.out⟩
end
end Go.Proofs.YtnkgglghjohdjaaGreat.R
