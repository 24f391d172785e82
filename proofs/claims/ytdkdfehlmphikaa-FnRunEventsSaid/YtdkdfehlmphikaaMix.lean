/- Contracts of MixNumbers, of the program and of the reference, and of the program's mix and isKey. No condition but lists of at most 2^20 numbers. -/
import Derived.Test.YtdkdfehlmphikaaMA
namespace Go.Proofs.Ytdkdfehlmphikaa
open Go.RowKit
/-- One number more is mixed in. -/
def mixX (h n : Int) : Int := (31 * h + 7919 * n + 17) % 1000003
def mixS (h n : Int) : Int := (mixX h n * mixX h n + mixX h n + 7) % 1000003
theorem mixX_bd (h n : Int) : 0 ≤ mixX h n ∧ mixX h n ≤ 1000002 := by unfold mixX; omega
theorem mixS_bd (h n : Int) : 0 ≤ mixS h n ∧ mixS h n ≤ 1000002 := by unfold mixS; omega
def mixAll (xs : List Int) : Int := xs.foldl mixS 1
def keyOk (xs : List Int) : Bool := xs.all (fun x => inB x 0 1000002)
/-- The hash of numbers. -/
def mixV (xs : List Int) : Int := if decide (xs.length ≤ 8) && keyOk xs then mixAll xs else -1
theorem mixAll_snoc (xs : List Int) (k : Nat) (hk : k < xs.length) : mixAll (xs.take (k + 1)) = mixS (mixAll (xs.take k)) (xs.getD k 0) := by
  have hg : xs.getD k 0 = xs[k] := by simp [List.getD_eq_getElem?_getD, hk]
  rw [List.take_succ_eq_append_getElem hk, hg, mixAll, List.foldl_append]
  rfl
theorem mixAll_bd (xs : List Int) : ∀ k, k ≤ xs.length → 0 ≤ mixAll (xs.take k) ∧ mixAll (xs.take k) ≤ 1000002
  | 0, _ => by simp [mixAll]
  | k + 1, hk => by rw [mixAll_snoc xs k (by omega)]; exact mixS_bd _ _
theorem all_not {xs : List Int} {k : Nat} {lo hi : Int} (hk : k < xs.length) (h : inB (xs.getD k 0) lo hi = false) : xs.all (fun x => inB x lo hi) = false := by
  rw [← Bool.not_eq_true]
  intro h'
  have := List.all_eq_true.1 h' (xs.getD k 0) (by simp [List.getD_eq_getElem?_getD, hk])
  rw [this] at h; cases h
theorem all_of {xs : List Int} {lo hi : Int} (h : ∀ j, j < xs.length → inB (xs.getD j 0) lo hi = true) : xs.all (fun x => inB x lo hi) = true := by
  refine List.all_eq_true.2 fun x hx => ?_
  obtain ⟨j, hj, rfl⟩ := List.mem_iff_getElem.1 hx
  have := h j hj
  simpa [List.getD_eq_getElem?_getD, hj] using this
theorem all_get {xs : List Int} {lo hi : Int} (h : xs.all (fun x => inB x lo hi) = true) {k : Nat} (hk : k < xs.length) : lo ≤ xs.getD k 0 ∧ xs.getD k 0 ≤ hi :=
  inB_true.1 (List.all_eq_true.1 h (xs.getD k 0) (by simp [List.getD_eq_getElem?_getD, hk]))
theorem sq_bd (X : Int) (h0 : 0 ≤ X) (h : X ≤ 1000002) : 0 ≤ X * X ∧ X * X ≤ 1000004000004 := by
  refine ⟨Int.mul_nonneg h0 h0, ?_⟩
  have h1 : X * X ≤ 1000002 * X := Int.mul_le_mul_of_nonneg_right h h0
  omega
theorem s_l2Mix (h n : Int) (w : World) (h1 : 0 ≤ h) (h2 : h ≤ 1000002) (n1 : 0 ≤ n) (n2 : n ≤ 1000002) :
    Calls Try.prog 109 #[.int .i64 h, .int .i64 n] w fun e w' => e = .returned (.int .i64 (mixS h n)) ∧ w = w' := by
  have HM := Lib.hid (show mixS h n = ((h * 31 + n * 7919 + 17) % 1000003 * ((h * 31 + n * 7919 + 17) % 1000003) + (h * 31 + n * 7919 + 17) % 1000003 + 7) % 1000003 by
    rw [mixS, mixX, Int.mul_comm 31 h, Int.mul_comm 7919 n])
  obtain ⟨q1, q2⟩ := sq_bd ((h * 31 + n * 7919 + 17) % 1000003) (by omega) (by omega)
  go_enter Try.func109, Try.ntmps109
  go_wp2
  go_ret
  exact ⟨ret_int (by rw [HM.out]), rfl⟩
theorem c_isKey (n : Int) (w : World) :
    Calls Try.prog 106 #[.int .i64 n] w fun e w' => e = .returned (.bool (inB n 0 1000002)) ∧ w = w' := by
  go_enter Try.func106, Try.ntmps106
  go_wp2_with (go_at_call 63; refine (c_in _ _ _ _).mono ?_; rintro e w' ⟨rfl, rfl⟩)
  go_ret
  exact ⟨rfl, rfl⟩
set_option maxHeartbeats 800000 in
theorem c_MixNumbers (a : Option Addr) (n cap : Nat) (xs : List Int) (w : World) (hxs : xs.length = n) (hn : n ≤ 1048576) (h : Ints w a xs) :
    Calls Try.prog 112 #[.slice a n cap] w fun e w' => e = .returned (.int .i64 (mixV xs)) ∧ w = w' := by
  have HX := Lib.hid hxs
  have HI := Lib.hid h
  clear h hxs
  by_cases h8 : 8 < n
  · have h8' : (8 : Int) < (n : Int) := by omega
    go_enter Try.func112, Try.ntmps112
    go_wp2
    go_ret
    exact ⟨ret_int (by rw [mixV, decide_eq_false (by rw [HX.out]; omega)]; rfl), rfl⟩
  have h8' : (n : Int) ≤ 8 := by omega
  go_enter Try.func112, Try.ntmps112
  go_wp2
  go_loop [3, 12] (fun t i => ∃ (k : Nat), k ≤ n ∧ i = .int .i64 k ∧ t = .int .i64 (mixAll (xs.take k)) ∧ Hid (∀ j, j < k → inB (xs.getD j 0) 0 1000002 = true)) (fun _ i => n - (intOf i).toNat)
  case atStart => exact ⟨0, Nat.zero_le _, rfl, by simp [mixAll], Lib.hid fun j hj => by omega⟩
  case round =>
    obtain ⟨k, hk, rfl, rfl, HV⟩ := hrel
    have hmb := mixAll_bd xs k (by rw [HX.out]; exact hk)
    by_cases hlt : k < n
    · rcases HI.out with h0 | ⟨b, off, ha, hb, hcell⟩
      · have := HX.out; rw [h0] at this; simp at this; omega
      · have hc1 := hcell k (by have := HX.out; omega)
        have HS := Lib.hid (mixAll_snoc xs k (by have := HX.out; omega))
        subst ha
        clear hcell
        generalize hxk : xs.getD k 0 = xk at hc1 HS
        have HXK := Lib.hid hxk
        clear hxk
        generalize hm : mixAll (xs.take k) = m at hmb HS
        have HM := Lib.hid hm
        clear hm
        obtain ⟨m1, m2⟩ := hmb
        cases hv1 : inB xk 0 1000002
        · go_wp2_with (go_at_call 106; refine (c_isKey _ _).mono ?_; rintro e w' ⟨rfl, rfl⟩)
          go_ret
          exact ⟨ret_int (by rw [mixV, keyOk, all_not (k := k) (by have := HX.out; omega) (by rw [HXK.out]; exact hv1), Bool.and_false]; rfl), rfl⟩
        · obtain ⟨x1, x2⟩ := inB_true.1 hv1
          obtain ⟨q1, q2⟩ := sq_bd ((31 * m + 7919 * xk + 17) % 1000003) (by omega) (by omega)
          go_wp2_with (go_at_call 106; refine (c_isKey _ _).mono ?_; rintro e w' ⟨rfl, rfl⟩)
          go_round
          case rel =>
            refine ⟨k + 1, by omega, by go_num, by rw [HS.out, mixS, mixX], Lib.hid fun j hj => ?_⟩
            by_cases hjk : j = k
            · subst hjk; rw [HXK.out]; exact hv1
            · exact HV.out j (by omega)
          case measure => simp [intOf]; omega
    · obtain rfl : k = n := by omega
      go_wp2
      go_ret
      refine ⟨ret_int ?_, rfl⟩
      rw [mixV, keyOk, all_of (by rw [HX.out]; exact HV.out), decide_eq_true (by rw [HX.out]; omega), List.take_of_length_le (by rw [HX.out]; exact Nat.le_refl _)]
      rfl
set_option maxHeartbeats 800000 in
theorem s_MixNumbers (a : Option Addr) (n cap : Nat) (xs : List Int) (w : World) (hxs : xs.length = n) (hn : n ≤ 1048576) (h : Ints w a xs) :
    Calls Try.prog 104 #[.slice a n cap] w fun e w' => e = .returned (.int .i64 (mixV xs)) ∧ w = w' := by
  have HX := Lib.hid hxs
  have HI := Lib.hid h
  clear h hxs
  go_enter Try.func104, Try.ntmps104
  go_wp2
  go_loop [3, 4] (fun t i => ∃ (k : Nat), k ≤ n ∧ i = .int .i64 k ∧ t = .int .i64 (mixAll (xs.take k)) ∧ Hid (∀ j, j < k → inB (xs.getD j 0) 0 1000002 = true) ∧ (0 < k → n ≤ 8)) (fun _ i => n - (intOf i).toNat)
  case atStart => exact ⟨0, Nat.zero_le _, rfl, by simp [mixAll], Lib.hid fun j hj => by omega, fun h => by omega⟩
  case round =>
    obtain ⟨k, hk, rfl, rfl, HV, h8⟩ := hrel
    have H8 := Lib.hid h8
    clear h8
    have hmb := mixAll_bd xs k (by rw [HX.out]; exact hk)
    by_cases hlt : k < n
    · rcases HI.out with h0 | ⟨b, off, ha, hb, hcell⟩
      · have := HX.out; rw [h0] at this; simp at this; omega
      · have hc1 := hcell k (by have := HX.out; omega)
        have HS := Lib.hid (mixAll_snoc xs k (by have := HX.out; omega))
        subst ha
        clear hcell
        generalize hxk : xs.getD k 0 = xk at hc1 HS
        have HXK := Lib.hid hxk
        clear hxk
        generalize hm : mixAll (xs.take k) = m at hmb HS
        have HM := Lib.hid hm
        clear hm
        obtain ⟨m1, m2⟩ := hmb
        cases hv1 : inB xk 0 1000002
        · go_wp2_with (go_at_call 87; refine (c_l1In _ _ _ _).mono ?_; rintro e w' ⟨rfl, rfl⟩)
          go_ret
          exact ⟨ret_int (by rw [mixV, keyOk, all_not (k := k) (by have := HX.out; omega) (by rw [HXK.out]; exact hv1), Bool.and_false]; rfl), rfl⟩
        · obtain ⟨x1, x2⟩ := inB_true.1 hv1
          by_cases h8 : 8 < n
          · have h8' : (8 : Int) < (n : Int) := by omega
            go_wp2_with (go_at_call 87; refine (c_l1In _ _ _ _).mono ?_; rintro e w' ⟨rfl, rfl⟩)
            go_ret
            exact ⟨ret_int (by rw [mixV, decide_eq_false (by rw [HX.out]; omega)]; rfl), rfl⟩
          · have h8' : (n : Int) ≤ 8 := by omega
            go_wp2_with (first | (go_at_call 87; refine (c_l1In _ _ _ _).mono ?_; rintro e w' ⟨rfl, rfl⟩) | (go_at_call 109; refine (s_l2Mix _ _ _ m1 m2 x1 x2).mono ?_; rintro e w' ⟨rfl, rfl⟩))
            go_round
            case rel =>
              refine ⟨k + 1, by omega, by go_num, by rw [HS.out], Lib.hid fun j hj => ?_, fun _ => by omega⟩
              by_cases hjk : j = k
              · subst hjk; rw [HXK.out]; exact hv1
              · exact HV.out j (by omega)
            case measure => simp [intOf]; omega
    · obtain rfl : k = n := by omega
      go_wp2
      go_ret
      refine ⟨ret_int ?_, rfl⟩
      have h8 : xs.length ≤ 8 := by
        rw [HX.out]
        by_cases h0 : 0 < k
        · exact H8.out h0
        · omega
      rw [mixV, keyOk, all_of (by rw [HX.out]; exact HV.out), decide_eq_true h8, List.take_of_length_le (by rw [HX.out]; exact Nat.le_refl _)]
      rfl
end Go.Proofs.Ytdkdfehlmphikaa
