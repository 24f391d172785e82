/- Contracts of SplitPart, of the program and of the reference. No condition but lists of at most 2^20 numbers. -/
import Derived.Test.YtdpmlkigmadajaaSplitB
namespace Go.Proofs.Ytdpmlkigmadajaa
open Go.RowKit
/-- The sum of the first k shares. -/
def sumTo (xs : List Int) : Nat → Int
  | 0 => 0
  | k + 1 => sumTo xs k + xs.getD k 0
def shOk (xs : List Int) : Bool := xs.all (fun x => inB x 0 100)
theorem sumTo_bd {xs : List Int} (h : ∀ j, j < xs.length → inB (xs.getD j 0) 0 100 = true) : ∀ k, k ≤ xs.length → 0 ≤ sumTo xs k ∧ sumTo xs k ≤ 100 * k
  | 0, _ => by simp [sumTo]
  | k + 1, hk => by
    have h1 := sumTo_bd h k (by omega)
    have h2 := inB_true.1 (h k (by omega))
    simp only [sumTo]; omega
theorem sumTo_bdk {xs : List Int} : ∀ k, (∀ j, j < k → inB (xs.getD j 0) 0 100 = true) → 0 ≤ sumTo xs k ∧ sumTo xs k ≤ 100 * k
  | 0, _ => by simp [sumTo]
  | k + 1, h => by
    have h1 := sumTo_bdk k (fun j hj => h j (by omega))
    have h2 := inB_true.1 (h k (by omega))
    simp only [sumTo]; omega
/-- The first part from k on, at most f further ones, whose sum of shares is above h. -/
def fpFrom (xs : List Int) (h : Int) : Nat → Nat → Int
  | 0, _ => -1
  | f + 1, k => if h < sumTo xs (k + 1) then (k : Int) else fpFrom xs h f (k + 1)
def partV (key : Int) (xs : List Int) : Int :=
  if inB key 0 1000002 && inB xs.length 1 10 && shOk xs && decide (sumTo xs xs.length = 100) then fpFrom xs (ph key) xs.length 0 else -1
theorem shOk_not {xs : List Int} {k : Nat} (hk : k < xs.length) (h : inB (xs.getD k 0) 0 100 = false) : shOk xs = false := all_not hk h
theorem shOk_of {xs : List Int} (h : ∀ j, j < xs.length → inB (xs.getD j 0) 0 100 = true) : shOk xs = true := all_of h
theorem partV_no {key : Int} {xs : List Int} (h : inB key 0 1000002 = false ∨ inB xs.length 1 10 = false ∨ shOk xs = false ∨ sumTo xs xs.length ≠ 100) : partV key xs = -1 := by
  unfold partV
  rcases h with h | h | h | h <;> simp [h]
set_option maxHeartbeats 1600000 in
theorem c_SplitPart (key : Int) (a : Option Addr) (n cap : Nat) (xs : List Int) (w : World) (hxs : xs.length = n) (hn : n ≤ 1048576) (h : Ints w a xs) :
    Calls Try.prog 27 #[.int .i64 key, .slice a n cap] w fun e w' => e = .returned (.int .i64 (partV key xs)) ∧ Below w.heap.size w w' := by
  have HX := Lib.hid hxs
  have HI := Lib.hid h
  clear h hxs
  cases hk : inB key 0 1000002
  · go_enter Try.func27, Try.ntmps27
    go_wp2_with (go_at_call 65; refine (c_isKey _ _).mono ?_; rintro e w' ⟨rfl, rfl⟩)
    go_ret
    exact ⟨ret_int (partV_no (.inl hk)).symm, Below.refl _ _⟩
  cases hl : inB n 1 10
  · go_enter Try.func27, Try.ntmps27
    go_wp2_with (first | (go_at_call 65; refine (c_isKey _ _).mono ?_; rintro e w' ⟨rfl, rfl⟩) | (go_at_call 58; refine (c_in _ _ _ _).mono ?_; rintro e w' ⟨rfl, rfl⟩))
    go_ret
    exact ⟨ret_int (partV_no (.inr (.inl (by rw [HX.out]; exact hl)))).symm, Below.refl _ _⟩
  obtain ⟨n1, n2⟩ := inB_true.1 hl
  have HK := Lib.hid hk
  have HL := Lib.hid hl
  have hph := ph_bd hk
  generalize hh : ph key = hsh at hph
  have HH := Lib.hid hh
  clear hh
  obtain ⟨p1, p2⟩ := hph
  go_enter Try.func27, Try.ntmps27
  go_wp2_with (first | (go_at_call 65; refine (c_isKey _ _).mono ?_; rintro e w' ⟨rfl, rfl⟩) | (go_at_call 58; refine (c_in _ _ _ _).mono ?_; rintro e w' ⟨rfl, rfl⟩))
  clear hk hl
  go_loopw [5, 6, 20] (fun t q i wr => ∃ (k : Nat) (p : Int), k ≤ n ∧ i = .int .i64 k ∧ t = .int .i64 (sumTo xs k) ∧ q = .int .i64 p ∧ -1 ≤ p ∧ Hid ((p < 0 → fpFrom xs hsh (n - k) k = fpFrom xs hsh n 0) ∧ (0 ≤ p → p = fpFrom xs hsh n 0)) ∧ Hid (∀ j, j < k → inB (xs.getD j 0) 0 100 = true) ∧ Below w.heap.size w wr) (fun _ _ i _ => n - (intOf i).toNat)
  case atStart => exact ⟨0, -1, Nat.zero_le _, rfl, rfl, rfl, by omega, Lib.hid ⟨fun _ => rfl, fun h => by omega⟩, Lib.hid fun j hj => by omega, Below.refl _ _⟩
  case round =>
    obtain ⟨k, p, hk, rfl, rfl, rfl, hp, HP, HV, hG⟩ := hrel
    have HG := Lib.hid hG
    clear hG
    have hsb := sumTo_bdk k HV.out
    obtain ⟨sb1, sb2⟩ := hsb
    by_cases hlt : k < n
    · rcases HI.out with h0 | ⟨b, off, ha, hb, hcell⟩
      · have := HX.out; rw [h0] at this; simp at this; omega
      · have hc1 := (HG.out.cell (p := ⟨b, off + k, none⟩) hb).trans (hcell k (by have := HX.out; omega))
        have HS2 := Lib.hid (show sumTo xs (k + 1) = sumTo xs k + xs.getD k 0 from rfl)
        have HF := Lib.hid (show fpFrom xs hsh (n - k) k = if hsh < sumTo xs (k + 1) then (k : Int) else fpFrom xs hsh (n - (k + 1)) (k + 1) by
          rw [show n - k = (n - (k + 1)) + 1 from by omega]; rfl)
        subst ha
        clear hcell
        generalize hxk : xs.getD k 0 = xk at hc1 HS2
        have HXK := Lib.hid hxk
        clear hxk
        generalize hm : sumTo xs k = m at sb1 sb2 HS2
        clear hm
        have z0 := HG.out.size
        cases hv1 : inB xk 0 100
        · go_wp2_with (go_at_call 66; refine (c_isShare _ _).mono ?_; rintro e w' ⟨rfl, rfl⟩)
          go_ret
          exact ⟨ret_int (partV_no (.inr (.inr (.inl (shOk_not (k := k) (by have := HX.out; omega) (by rw [HXK.out]; exact hv1)))))).symm, HG.out⟩
        · obtain ⟨x1, x2⟩ := inB_true.1 hv1
          have HV' := Lib.hid (show ∀ j, j < k + 1 → inB (xs.getD j 0) 0 100 = true from fun j hj => by
              by_cases hjk : j = k
              · subst hjk; rw [HXK.out]; exact hv1
              · exact HV.out j (by omega))
          by_cases hp0 : p < 0
          · by_cases hlow : hsh < m + xk
            · go_wp2_with (first | (go_at_call 66; refine (c_isShare _ _).mono ?_; rintro e w' ⟨rfl, rfl⟩) | (go_at_call 67; refine (c_partHash _ _ HK.out).mono ?_; rintro e w' ⟨rfl, hb'⟩; rw [HH.out]))
              go_roundw
              case rel => exact ⟨k + 1, k, by omega, by go_num, by rw [HS2.out], rfl, by omega, Lib.hid ⟨fun h => by omega, fun _ => by rw [← HP.out.1 hp0, HF.out, HS2.out, if_pos (by omega)]⟩, HV', HG.out.trans (Below.mono (by assumption) z0)⟩
              case measure => simp [intOf]; omega
            · have hlow' : m + xk ≤ hsh := by omega
              go_wp2_with (first | (go_at_call 66; refine (c_isShare _ _).mono ?_; rintro e w' ⟨rfl, rfl⟩) | (go_at_call 67; refine (c_partHash _ _ HK.out).mono ?_; rintro e w' ⟨rfl, hb'⟩; rw [HH.out]))
              go_roundw
              case rel => exact ⟨k + 1, p, by omega, by go_num, by rw [HS2.out], rfl, hp, Lib.hid ⟨fun _ => by rw [← HP.out.1 hp0, HF.out, HS2.out, if_neg (by omega)], fun h => by omega⟩, HV', HG.out.trans (Below.mono (by assumption) z0)⟩
              case measure => simp [intOf]; omega
          · have hp0' : 0 ≤ p := by omega
            go_wp2_with (first | (go_at_call 66; refine (c_isShare _ _).mono ?_; rintro e w' ⟨rfl, rfl⟩))
            go_roundw
            case rel => exact ⟨k + 1, p, by omega, by go_num, by rw [HS2.out], rfl, hp, Lib.hid ⟨fun h => by omega, fun _ => HP.out.2 hp0'⟩, HV', HG.out⟩
            case measure => simp [intOf]; omega
    · obtain rfl : k = n := by omega
      by_cases h100 : sumTo xs k = 100
      · have HR := Lib.hid (show partV key xs = fpFrom xs hsh k 0 by
          rw [partV, HK.out, HX.out, HL.out, shOk_of (by rw [HX.out]; exact HV.out), h100, HH.out]; rfl)
        rw [h100] at sb1 sb2 ⊢
        go_wp2
        go_ret
        refine ⟨ret_int ?_, HG.out⟩
        rw [HR.out]
        by_cases hp0 : p < 0
        · have := HP.out.1 hp0
          rw [Nat.sub_self] at this
          rw [← this]; show p = -1; omega
        · exact HP.out.2 (by omega)
      · have h100' : (sumTo xs k == 100) = false := by simp; exact h100
        have h100'' : (sumTo xs k != 100) = true := by simp; exact h100
        go_wp2
        go_ret
        exact ⟨ret_int (partV_no (.inr (.inr (.inr (by rw [HX.out]; exact h100))))).symm, HG.out⟩
set_option maxHeartbeats 1600000 in
theorem s_SplitPart (key : Int) (a : Option Addr) (n cap : Nat) (xs : List Int) (w : World) (hxs : xs.length = n) (hn : n ≤ 1048576) (h : Ints w a xs) :
    Calls Try.prog 28 #[.int .i64 key, .slice a n cap] w fun e w' => e = .returned (.int .i64 (partV key xs)) ∧ Below w.heap.size w w' := by
  have HX := Lib.hid hxs
  have HI := Lib.hid h
  clear h hxs
  go_enter Try.func28, Try.ntmps28
  go_wp2
  go_loop [5, 6] (fun t i => ∃ (k : Nat), k ≤ n ∧ i = .int .i64 k ∧ t = .int .i64 (sumTo xs k) ∧ Hid (∀ j, j < k → inB (xs.getD j 0) 0 100 = true) ∧ Hid (0 < k → n ≤ 10)) (fun _ i => n - (intOf i).toNat)
  case atStart => exact ⟨0, Nat.zero_le _, rfl, rfl, Lib.hid fun j hj => by omega, Lib.hid fun h => by omega⟩
  case round =>
    obtain ⟨k, hk, rfl, rfl, HV, H10⟩ := hrel
    have hsb := sumTo_bdk k HV.out
    obtain ⟨sb1, sb2⟩ := hsb
    by_cases hlt : k < n
    · rcases HI.out with h0 | ⟨b, off, ha, hb, hcell⟩
      · have := HX.out; rw [h0] at this; simp at this; omega
      · have hc1 := hcell k (by have := HX.out; omega)
        have HS2 := Lib.hid (show sumTo xs (k + 1) = sumTo xs k + xs.getD k 0 from rfl)
        subst ha
        clear hcell
        generalize hxk : xs.getD k 0 = xk at hc1 HS2
        have HXK := Lib.hid hxk
        clear hxk
        generalize hm : sumTo xs k = m at sb1 sb2 HS2
        clear hm
        cases hv1 : inB xk 0 100
        · go_wp2_with (go_at_call 51; refine (c_l1In _ _ _ _).mono ?_; rintro e w' ⟨rfl, rfl⟩)
          go_ret
          exact ⟨ret_int (partV_no (.inr (.inr (.inl (shOk_not (k := k) (by have := HX.out; omega) (by rw [HXK.out]; exact hv1)))))).symm, Below.refl _ _⟩
        · obtain ⟨x1, x2⟩ := inB_true.1 hv1
          by_cases h10 : 10 < n
          · have h10' : (10 : Int) < (n : Int) := by omega
            go_wp2_with (go_at_call 51; refine (c_l1In _ _ _ _).mono ?_; rintro e w' ⟨rfl, rfl⟩)
            go_ret
            exact ⟨ret_int (partV_no (.inr (.inl (by rw [HX.out]; exact inB_false.2 (.inr h10'))))).symm, Below.refl _ _⟩
          · have h10' : (n : Int) ≤ 10 := by omega
            go_wp2_with (go_at_call 51; refine (c_l1In _ _ _ _).mono ?_; rintro e w' ⟨rfl, rfl⟩)
            go_round
            case rel =>
              refine ⟨k + 1, by omega, by go_num, by rw [HS2.out], Lib.hid fun j hj => ?_, Lib.hid fun _ => by omega⟩
              by_cases hjk : j = k
              · subst hjk; rw [HXK.out]; exact hv1
              · exact HV.out j (by omega)
            case measure => simp [intOf]; omega
    · obtain rfl : k = n := by omega
      by_cases h100 : sumTo xs k = 100
      · cases hkey : inB key 0 1000002
        · rw [h100]
          go_wp2_with (go_at_call 51; refine (c_l1In _ _ _ _).mono ?_; rintro e w' ⟨rfl, rfl⟩)
          go_ret
          exact ⟨ret_int (partV_no (.inl hkey)).symm, Below.refl _ _⟩
        · obtain ⟨m1, m2⟩ := mixV_two hkey
          have hk0 : 0 < k := by
            rcases Nat.eq_zero_or_pos k with h | h
            · subst h; simp [sumTo] at h100
            · exact h
          have hk10 := H10.out hk0
          have HP := Lib.hid (show ph key = mixV [key, 7] % 100 from rfl)
          have HR := Lib.hid (show partV key xs = fpFrom xs (ph key) k 0 by
            rw [partV, hkey, HX.out, inB_true.2 ⟨by omega, by omega⟩, shOk_of (by rw [HX.out]; exact HV.out), h100]; rfl)
          have H100 := Lib.hid h100
          have HII := Lib.hid (two_ints w key)
          rcases HI.out with h0 | ⟨b, off, ha, hb, hcell⟩
          · have := HX.out; rw [h0] at this; simp at this; omega
          have HC := Lib.hid hcell
          subst ha
          clear hcell
          rw [h100]
          clear h100 sb1 sb2 hk10
          generalize hh : mixV [key, 7] % 100 = hsh at HP
          have HH := Lib.hid hh
          have hb1 : 0 ≤ hsh := by omega
          have hb2 : hsh < 100 := by omega
          go_wp2_with (first | (go_at_call 51; refine (c_l1In _ _ _ _).mono ?_; rintro e w' ⟨rfl, rfl⟩) | (go_at_call 68; refine (s_MixNumbers _ 2 2 [key, 7] _ rfl (by decide) HII.out).mono ?_; rintro e w' ⟨rfl, rfl⟩))
          clear hh
          go_loop [7, 8] (fun t i => ∃ (j : Nat) (q : Int), j ≤ k ∧ i = .int .i64 j ∧ t = .int .i64 q ∧ 0 ≤ q ∧ q < 100 ∧ Hid (q = hsh - sumTo xs j) ∧ Hid (fpFrom xs hsh (k - j) j = fpFrom xs hsh k 0)) (fun _ i => k - (intOf i).toNat)
          case atStart => exact ⟨0, hsh, Nat.zero_le _, rfl, by rw [HH.out], hb1, hb2, Lib.hid (by simp [sumTo]), Lib.hid rfl⟩
          case round =>
            obtain ⟨j, q, hj, rfl, rfl, q1, q2, HQ, HF⟩ := hrel
            have hjk : j < k := by
              rcases Nat.lt_or_ge j k with h | h
              · exact h
              · obtain rfl : j = k := by omega
                have := HQ.out; have := H100.out; omega
            have hc1 := HC.out j (by have := HX.out; omega)
            have hx := inB_true.1 (HV.out j hjk)
            have HS2 := Lib.hid (show sumTo xs (j + 1) = sumTo xs j + xs.getD j 0 from rfl)
            have HN := Lib.hid (show fpFrom xs hsh (k - j) j = if hsh < sumTo xs (j + 1) then (j : Int) else fpFrom xs hsh (k - (j + 1)) (j + 1) by
              rw [show k - j = (k - (j + 1)) + 1 from by omega]; rfl)
            generalize xs.getD j 0 = xj at hc1 hx HS2
            obtain ⟨x1, x2⟩ := hx
            have hc2 : ∀ o, (w.alloc o).cell? ⟨b, off + j, none⟩ = some (.int .i64 xj) := fun o => keep hc1 o
            by_cases hge : xj ≤ q
            · go_wp2_with fail
              go_round
              case rel =>
                refine ⟨j + 1, q - xj, by omega, by go_num, rfl, by omega, by omega, Lib.hid (by rw [HS2.out, HQ.out]; omega), Lib.hid ?_⟩
                rw [← HF.out, HN.out, if_neg (by have := HQ.out; have := HS2.out; omega)]
              case measure => simp [intOf]; omega
            · have hge' : q < xj := by omega
              go_wp2_with fail
              go_ret
              refine ⟨ret_int ?_, by go_grown⟩
              rw [HR.out, HP.out, ← HF.out, HN.out, if_pos (by have := HQ.out; have := HS2.out; omega)]
      · have h100' : (sumTo xs k == 100) = false := by simp; exact h100
        have h100'' : (sumTo xs k != 100) = true := by simp; exact h100
        cases hkey : inB key 0 1000002
        all_goals
          go_wp2_with (go_at_call 51; refine (c_l1In _ _ _ _).mono ?_; rintro e w' ⟨rfl, rfl⟩)
          go_ret
          exact ⟨ret_int (partV_no (.inr (.inr (.inr (by rw [HX.out]; exact h100))))).symm, Below.refl _ _⟩
end Go.Proofs.Ytdpmlkigmadajaa
