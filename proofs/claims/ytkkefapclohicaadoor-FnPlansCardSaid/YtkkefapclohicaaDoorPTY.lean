/- The text of a plan: the program's and the reference's are the same. -/
import Derived.Lib.ItoaNum
import Derived.Lib.Join
import Derived.Test.YtkkefapclohicaaDoorWL1
set_option linter.unusedVariables false
set_option linter.unusedSimpArgs false
namespace Go.Proofs.YtkkefapclohicaaDoor.R
/-! numerals -/
def numB (n : Nat) : ByteArray := ⟨(Lib.decDigits n).toArray⟩
theorem numB_size (n : Nat) : (numB n).size = (Lib.decDigits n).length := by
  show (Lib.decDigits n).toArray.size = _
  simp
theorem bytes_ext {a b : ByteArray} (h : a.data.toList = b.data.toList) : a = b := by
  cases a; cases b
  congr 1
  exact Array.ext' h
theorem ofBytes_one (x : Int) : (ofBytes [x]).data.toList = [UInt8.ofNat x.toNat] := rfl
theorem wrap8 {x : Int} (h0 : 0 ≤ x) (h1 : x ≤ 255) : IntKind.wrap .u8 x = x := by
  show x % 256 = x
  omega
theorem decDigits_more {n : Nat} (h : ¬ n < 10) : Lib.decDigits n = Lib.decDigits (n / 10) ++ [UInt8.ofNat (48 + n % 10)] := by rw [Lib.decDigits, dif_neg h]
theorem num_is (j : Nat) : ∀ (k n : Nat), n < 10 ^ (k + 1) → k ≤ 12 → n ≤ 1099511627776 → f38N (j + (k + 1)) (n : Int) = some ((numB n, ()), ()) ∧ (numB n).size ≤ k + 1 := by
  intro k
  induction k with
  | zero =>
    intro n hn _ _
    have hn : n < 10 := by simpa using hn
    refine ⟨?_, by rw [numB_size, Lib.decDigits_one hn]; simp⟩
    show f38b (f38N j) (n : Int) = _
    unfold f38b
    rw [ilt_t (by omega), cond_true, iadd64 (by unfold In64; omega), wrap8 (by omega) (by omega)]
    have e : ofBytes [48 + (n : Int)] = numB n := bytes_ext (by
      rw [ofBytes_one]
      show _ = Lib.decDigits n
      rw [Lib.decDigits_one hn, show ((48 : Int) + (n : Int)).toNat = 48 + n by omega])
    rw [e]
  | succ k ih =>
    intro n hn hk hb
    show f38b (f38N (j + (k + 1))) (n : Int) = _ ∧ _
    unfold f38b
    by_cases h : n < 10
    · refine ⟨?_, by rw [numB_size, Lib.decDigits_one h]; simp⟩
      rw [ilt_t (by omega), cond_true, iadd64 (by unfold In64; omega), wrap8 (by omega) (by omega)]
      have e : ofBytes [48 + (n : Int)] = numB n := bytes_ext (by
        rw [ofBytes_one]
        show _ = Lib.decDigits n
        rw [Lib.decDigits_one h, show ((48 : Int) + (n : Int)).toNat = 48 + n by omega])
      rw [e]
    · obtain ⟨e1, e2⟩ := ih (n / 10) (by rw [Nat.pow_succ] at hn; omega) (by omega) (by omega)
      have eq : iquo .i64 (n : Int) 10 = ((n / 10 : Nat) : Int) := by
        have : (n : Int).tdiv 10 = ((n / 10 : Nat) : Int) := by rw [Int.tdiv_eq_ediv_of_nonneg (by omega)]; omega
        unfold iquo
        rw [this]
        exact wrap_in ⟨by omega, by omega⟩
      have er : irem (n : Int) 10 = ((n % 10 : Nat) : Int) := by
        unfold irem
        rw [Int.tmod_eq_emod_of_nonneg (by omega)]; omega
      have ew : IntKind.wrap .u8 (iadd .i64 48 ((n % 10 : Nat) : Int)) = ((48 + n % 10 : Nat) : Int) := by
        rw [iadd64 (by unfold In64; omega), wrap8 (by omega) (by omega)]; omega
      have en : numB (n / 10) ++ ofBytes [((48 + n % 10 : Nat) : Int)] = numB n := bytes_ext (by
        rw [ByteArray.data_append, Array.toList_append, ofBytes_one, Int.toNat_natCast]
        show Lib.decDigits (n / 10) ++ _ = Lib.decDigits n
        rw [decDigits_more h])
      have hz : (ofBytes [((48 + n % 10 : Nat) : Int)]).size = 1 := rfl
      have hs : (numB n).size ≤ k + 1 + 1 := by
        rw [← en, ByteArray.size_append, hz]; omega
      refine ⟨?_, hs⟩
      rw [ilt_f (by omega), cond_false, eq, er, ew, e1, bind_val]
      dsimp only
      rw [capB_t (by rw [hz]; omega), cond_true, joinK_val, en, ieq_f (by omega), Bool.not_false]
      simp only [cond_true, agree_self]
      rfl
theorem l1Num_is {n : Int} (h0 : 0 ≤ n) (h1 : n ≤ 1000) : f38 n = some ((numB n.toNat, ()), ()) ∧ (numB n.toNat).size ≤ 4 := by
  obtain ⟨m, rfl⟩ : ∃ m : Nat, n = (m : Int) := ⟨n.toNat, by omega⟩
  exact num_is 16 3 m (Nat.lt_of_le_of_lt (show m ≤ 1000 by omega) (by decide)) (by omega) (by omega)
theorem itoa_is {n : Int} (h0 : 0 ≤ n) (h1 : n ≤ 1000) : f65 n = some ((numB n.toNat, ()), ()) := by
  unfold f65 okI
  rw [decide_eq_true (by omega), decide_eq_true (by omega)]
  show some ((ByteArray.mk (Lib.itoa n).toArray, ()), ()) = _
  have : Lib.itoa n = Lib.decDigits n.toNat := by rw [Lib.itoa, if_neg (by omega)]
  rw [this]
  rfl
def wordsB (k d : Int) : ByteArray := (numB k.toNat ++ ByteArray.mk #[32]) ++ numB d.toNat
theorem words_is {k d : Int} (h0 : 0 ≤ k) (h1 : k ≤ 1000) (h2 : 0 ≤ d) (h3 : d ≤ 1000) : f44 [k, d] = some ((wordsB k d, ()), ()) := by
  have e1 := itoa_is h0 h1
  have e2 := itoa_is h2 h3
  have z1 := (l1Num_is h0 h1).2
  have z2 := (l1Num_is h2 h3).2
  have hj : (joinB [numB k.toNat, numB d.toNat] (ByteArray.mk #[32])) = (wordsB k d).data.toList := by
    unfold joinB wordsB
    simp only [List.map_cons, List.map_nil]
    rw [Lib.join_cons, ByteArray.data_append, Array.toList_append, ByteArray.data_append, Array.toList_append]
    simp [Lib.joinTail]
  have hw : (wordsB k d).data.toList.length ≤ 9 := by
    rw [← Lib.size_eq]
    unfold wordsB
    rw [ByteArray.size_append, ByteArray.size_append]
    have : (ByteArray.mk #[32]).size = 1 := rfl
    omega
  have e3 : f66 [numB k.toNat, numB d.toNat] (ByteArray.mk #[32]) = some ((wordsB k d, ()), ()) := by
    unfold f66 okJ
    rw [hj, decide_eq_true (by simp), decide_eq_true (by omega)]
    rfl
  unfold f44
  rw [joinK_val, f44_l0_eq]
  unfold f44_b0
  simp only [List.length_cons, List.length_nil]
  rw [ilt_t (by omega), cond_true, inB_t (by omega) (by omega), cond_true, show @rdA Int 0 [k, d] 0 = k from rfl, e1, bind_val, capB_t (by simp), cond_true, joinK_val, show iadd .i64 0 1 = 1 from rfl, f44_l0_eq]
  unfold f44_b0
  simp only [List.length_cons, List.length_nil]
  rw [ilt_t (by omega), cond_true, inB_t (by omega) (by omega), cond_true, show @rdA Int 0 [k, d] 1 = d from rfl, e2, bind_val, capB_t (by simp), cond_true, joinK_val, show iadd .i64 1 1 = 2 from rfl, f44_l0_eq]
  unfold f44_b0
  rw [ilt_f (by omega), cond_false]
  show Option.bind (f66 [numB k.toNat, numB d.toNat] (ByteArray.mk #[32])) _ = _
  rw [e3, bind_val]
/-! who is late -/
section Late
variable {l : List Job} {o : List Int}
theorem late_go (hl : l.length ≤ 12) {F : List Int} (hF : F.length = l.length) : ∀ (m k : Nat) (out : List Int), F.length - k = m → k ≤ F.length → out.length ≤ k → (∀ y ∈ out, 0 ≤ y ∧ y < (k : Int)) → (∀ y : Nat, y < k → ((y : Int) ∈ out ↔ (jobAt l y).2.1 < F.getD y 0)) →
    Tot (fun (r : (List Int × Unit) × Unit) => r.1.1.length ≤ 12 ∧ ∀ y : Nat, y < l.length → ((y : Int) ∈ r.1.1 ↔ (jobAt l y).2.1 < F.getD y 0)) (f37_l0 (l, out, F, ((F.length : Nat) : Int), (k : Int), ())) := by
  intro m
  induction m with
  | zero =>
    intro k out hm hk h1 h2 h3
    rw [f37_l0_eq]
    unfold f37_b0
    rw [ilt_f (by omega), cond_false]
    exact Tot.ret ⟨by show out.length ≤ 12; omega, fun y hy => h3 y (by omega)⟩
  | succ m ih =>
    intro k out hm hk h1 h2 h3
    have hkF : k < F.length := by omega
    have e1 : rdA 0 F (k : Int) = F[k] := rdA_nat hkF
    have e2 : rdA (0, 0, 0) l (k : Int) = jobAt l (k : Int) := rfl
    have e3 : F.getD k 0 = F[k] := by simp [List.getD, hkF]
    have ei : iadd .i64 (k : Int) 1 = ((k + 1 : Nat) : Int) := by rw [iadd64 (by unfold In64; omega)]; rfl
    rw [f37_l0_eq]
    unfold f37_b0
    rw [ilt_t (by omega), cond_true, inB_t (by omega) (by omega), cond_true, inB_t (by omega) (by omega), cond_true, e1, e2]
    by_cases h : (jobAt l (k : Int)).2.1 < F[k]
    · rw [ilt_t h, cond_true, capB_t (by simp; omega), cond_true, joinK_val]
      unfold f37_c23
      dsimp only
      rw [joinK_val, ei]
      refine ih (k + 1) _ (by omega) (by omega) (by simp; omega) (fun y hy => ?_) (fun y hy => ?_)
      · rcases List.mem_append.1 hy with h' | h'
        · have := h2 y h'; omega
        · rw [List.mem_singleton.1 h']; omega
      · show _ ∈ out ++ [(k : Int)] ↔ _
        rw [List.mem_append, List.mem_singleton]
        by_cases hyk : y = k
        · subst hyk
          rw [e3]
          exact ⟨fun _ => h, fun _ => .inr rfl⟩
        · rw [← h3 y (by omega)]
          exact ⟨fun h => h.resolve_right (fun e => hyk (by omega)), .inl⟩
    · rw [ilt_f h, cond_false, joinK_val]
      unfold f37_c23
      dsimp only
      rw [joinK_val, ei]
      refine ih (k + 1) out (by omega) (by omega) (by omega) (fun y hy => by have := h2 y hy; omega) (fun y hy => ?_)
      by_cases hyk : y = k
      · subst hyk
        rw [e3]
        exact ⟨fun hm => by have := (h2 _ hm).2; omega, fun hm => absurd hm h⟩
      · exact h3 y (by omega)
theorem late_is (hp : Plan l) (hr : Rng l o) (ho : o.length ≤ 100) : Tot (fun (r : (List Int × Unit) × Unit) => r.1.1.length ≤ 12 ∧ ∀ y : Nat, y < l.length → ((y : Int) ∈ r.1.1 ↔ (jobAt l y).2.1 < (finD l o).getD y 0)) (f37 l o) := by
  have hF := finD_len l o
  unfold f37
  rw [f36_i hp hr ho, bind_val, joinK_val]
  exact late_go hp.len hF _ 0 [] rfl (Nat.zero_le _) (by simp) (fun y hy => by cases hy) (fun y hy => by omega)
/-! the lines -/
theorem line_size {k d due : Int} {s : ByteArray} (h0 : 0 ≤ k) (h1 : k ≤ 1000) (h2 : 0 ≤ d) (h3 : d ≤ 1000) : (wordsB k d).size ≤ 9 ∧ (lineP k d due (wordsB k d) s).size ≤ s.size + 15 := by
  have z1 := (l1Num_is h0 h1).2
  have z2 := (l1Num_is h2 h3).2
  have hw : (wordsB k d).size ≤ 9 := by
    unfold wordsB
    rw [ByteArray.size_append, ByteArray.size_append]
    have : (ByteArray.mk #[32]).size = 1 := rfl
    omega
  have y1 : (ByteArray.mk #[32, 108, 97, 116, 101]).size = 5 := rfl
  have y2 : (ByteArray.mk #[10]).size = 1 := rfl
  refine ⟨hw, ?_⟩
  by_cases h : due < d
  · rw [lineP_late h]; simp only [ByteArray.size_append]; omega
  · rw [lineP_on h]; simp only [ByteArray.size_append]; omega
theorem lines_go (hp : Plan l) (hr : Rng l o) (ho : o.length ≤ 12) {F late : List Int} (hF : F.length = l.length) (hA : AllIn 360 F) (hl : late.length ≤ 12) (hL : ∀ y : Nat, y < l.length → ((y : Int) ∈ late ↔ (jobAt l y).2.1 < F.getD y 0)) :
    ∀ (m k : Nat) (s : ByteArray), o.length - k = m → k ≤ o.length → s.size ≤ 15 * k → ∃ fin, planL l F (o.drop k) s = some fin ∧ f9_l0 (F, late, s, o, ((o.length : Nat) : Int), (k : Int), ()) = some ((fin, true, ()), ()) := by
  have hlen := hp.len
  intro m
  induction m with
  | zero =>
    intro k s hm hk hs
    rw [f9_l0_eq]
    unfold f9_b0
    rw [ilt_f (by omega), cond_false, List.drop_eq_nil_of_le (by omega)]
    exact ⟨s, rfl, rfl⟩
  | succ m ih =>
    intro k s hm hk hs
    have hkl : k < o.length := by omega
    obtain ⟨y0, y1⟩ := hr o[k] (List.getElem_mem hkl)
    obtain ⟨y, hy⟩ : ∃ y : Nat, o[k] = (y : Int) := ⟨o[k].toNat, by omega⟩
    rw [hy] at y0 y1
    have hyl : y < l.length := by omega
    have hyF : y < F.length := by omega
    have hd := hA F[y] (List.getElem_mem hyF)
    have e1 : rdA 0 o (k : Int) = (y : Int) := by rw [rdA_nat hkl, hy]
    have e2 : rdA 0 F (y : Int) = F[y] := rdA_nat hyF
    have e3 : F.getD (y : Int).toNat 0 = F[y] := by simp [List.getD, hyF]
    have e3' : F.getD y 0 = F[y] := by simp [List.getD, hyF]
    have e4 : l.getD (y : Int).toNat (0, 0, 0) = jobAt l (y : Int) := rfl
    obtain ⟨n1, z1⟩ := l1Num_is (n := (y : Int)) (by omega) (by omega)
    obtain ⟨n2, z2⟩ := l1Num_is (n := F[y]) (by omega) (by omega)
    have hw := words_is (k := (y : Int)) (d := F[y]) (by omega) (by omega) (by omega) (by omega)
    obtain ⟨w1, w2⟩ := line_size (k := (y : Int)) (d := F[y]) (due := (jobAt l (y : Int)).2.1) (s := s) (by omega) (by omega) (by omega) (by omega)
    have hLy := hL y hyl
    rw [e3'] at hLy
    obtain ⟨fin, f1, f2⟩ := ih (k + 1) (lineP (y : Int) F[y] (jobAt l (y : Int)).2.1 (wordsB (y : Int) F[y]) s) (by omega) (by omega) (by omega)
    have ei : iadd .i64 (k : Int) 1 = ((k + 1 : Nat) : Int) := by rw [iadd64 (by unfold In64; omega)]; rfl
    have q1 : (ByteArray.mk #[32]).size = 1 := rfl
    have q2 : (ByteArray.mk #[32, 108, 97, 116, 101]).size = 5 := rfl
    have q3 : (ByteArray.mk #[10]).size = 1 := rfl
    refine ⟨fin, ?_, ?_⟩
    · rw [List.drop_eq_getElem_cons hkl, hy]
      unfold planL
      rw [inB_t (by omega) (by omega), inB_t (by omega) (by omega), Bool.and_self, cond_true, e3, e4, hw, bind_val]
      dsimp only
      rw [decide_eq_true (by omega), cond_true]
      exact f1
    · rw [f9_l0_eq]
      unfold f9_b0
      have hz : (wordsB (y : Int) F[y]).size ≤ 9 := w1
      have sz : ((numB (y : Int).toNat ++ ByteArray.mk #[32]) ++ numB F[y].toNat) = wordsB (y : Int) F[y] := rfl
      rw [ilt_t (by omega), cond_true, inB_t (by omega) (by omega), cond_true, e1, n1, bind_val, capB_t (by rw [q1]; show (numB (y : Int).toNat).size + 1 ≤ _; omega), cond_true, inB_t (by omega) (by omega), cond_true, e2, n2, bind_val,
        capB_t (by simp only [ByteArray.size_append]; omega), cond_true]
      dsimp only
      rw [sz, capB_t (by omega), cond_true, f39_is late (y : Int) (by omega), bind_val]
      dsimp only
      by_cases h : (jobAt l (y : Int)).2.1 < F[y]
      · rw [decide_eq_true (hLy.2 h), cond_true, capB_t (by rw [q2, ByteArray.size_append]; omega), cond_true, joinK_val]
        unfold f9_c40
        dsimp only
        rw [capB_t (by rw [q3, ByteArray.size_append, ByteArray.size_append, q2]; omega), cond_true, joinK_val, ei]
        rw [lineP_late h] at f2
        exact f2
      · rw [decide_eq_false (fun hm => h (hLy.1 hm)), cond_false, joinK_val]
        unfold f9_c40
        dsimp only
        rw [capB_t (by rw [q3, ByteArray.size_append]; omega), cond_true, joinK_val, ei]
        rw [lineP_on h] at f2
        exact f2
end Late
end Go.Proofs.YtkkefapclohicaaDoor.R
