/- Contracts of markHostS, heldHostS, szHostS. No condition but the bounds that each states. -/
import Derived.Test.YtdkdfehlmphikaaUpF
import Derived.Test.YtdkdfehlmphikaaHostE
namespace Go.Proofs.Ytdkdfehlmphikaa
open Go.RowKit
set_option maxHeartbeats 1000000 in
theorem c_markHostS' (base g n cap : Nat) (k : Int) (vs : List Value) (w : World) (hn : n ≤ 1048576) (hk0 : 0 ≤ k) (hk : k ≤ 1000000000) (h : w.ownsRow base 97 3 (.slice (some ⟨g, 0, none⟩) n cap) n vs) :
    Calls Try.prog 30 #[.slice (some ⟨g, 0, none⟩) n cap, .int .i64 k] w fun e w' => e = .returned (.int .i64 (k + 3 * (n : Int))) ∧
      w'.ownsRow base 97 3 (.slice (some ⟨g, 0, none⟩) n cap) n ((upFrom k (n * 3)).map (Value.int .i64)) ∧ w.grownBy w' (some g) := by
  have HO := Lib.hid h
  clear h
  go_enter Try.func30, Try.ntmps30
  go_wp2
  go_loopw [1, 5] (fun q i wr => ∃ (j : Nat) (C : List Value), j ≤ n ∧ i = .int .i64 j ∧ q = .int .i64 (k + 3 * (j : Int)) ∧ C.length = n * 3 ∧ (∀ t, t < j * 3 → C[t]? = some (.int .i64 (k + (t : Int)))) ∧ wr.ownsRow base 97 3 (.slice (some ⟨g, 0, none⟩) n cap) n C ∧ w.grownBy wr (some g)) (fun _ i _ => n - (intOf i).toNat)
  case atStart => exact ⟨0, _, Nat.zero_le _, rfl, by simp, row_len HO.out, fun j hj => by omega, HO.out, grownBy_rfl _ _⟩
  case round =>
    obtain ⟨j, C, hj, rfl, rfl, hC, hCk, hown, hgr⟩ := hrel
    have HO' := Lib.hid hown
    have HG := Lib.hid hgr
    have HK := Lib.hid hCk
    have HC := Lib.hid hC
    clear hown hgr hCk hC
    by_cases hlt : j < n
    · have hl3 : C.length = n * 3 := HC.out
      have e0 := HO'.out.cellAt (j * 3) (by omega)
      have e1 := HO'.out.cellAt (j * 3 + 1) (by omega)
      have e2 := HO'.out.cellAt (j * 3 + 2) (by omega)
      rw [List.getElem?_eq_getElem (by omega)] at e0 e1 e2
      have f0 := HO'.out.frozenAt (j * 3)
      have f1 := HO'.out.frozenAt (j * 3 + 1)
      have f2 := HO'.out.frozenAt (j * 3 + 2)
      have s1 := HO'.out.stored (j * 3) (.int .i64 (k + 3 * (j : Int)))
      have s2 := s1.1.stored (j * 3 + 1) (.int .i64 (k + 3 * (j : Int) + 1))
      have s3 := s2.1.stored (j * 3 + 2) (.int .i64 (k + 3 * (j : Int) + 1 + 1))
      have HS3 := Lib.hid s3.1
      have HG3 := Lib.hid (grownBy_tr HG.out (grownBy_tr s1.2 (grownBy_tr s2.2 s3.2)))
      generalize C[j * 3]'(by omega) = v0 at e0
      generalize C[j * 3 + 1]'(by omega) = v1 at e1
      generalize C[j * 3 + 2]'(by omega) = v2 at e2
      clear hl3 s1 s2 s3
      go_wp2
      go_roundw
      case rel =>
        refine ⟨j + 1, _, by omega, by go_num, ?_, ?_, fun t ht => ?_, HS3.out, HG3.out⟩
        · congr 1; omega
        · simp [HC.out]
        · have hl3 := HC.out
          by_cases t2 : t = j * 3 + 2
          · subst t2
            rw [List.getElem?_set_self (by simp; omega)]
            congr 2; omega
          by_cases t1 : t = j * 3 + 1
          · subst t1
            rw [List.getElem?_set_ne (by omega), List.getElem?_set_self (by simp; omega)]
            congr 2; omega
          by_cases t0 : t = j * 3
          · subst t0
            rw [List.getElem?_set_ne (by omega), List.getElem?_set_ne (by omega), List.getElem?_set_self (by omega)]
            congr 2; omega
          · rw [List.getElem?_set_ne (by omega), List.getElem?_set_ne (by omega), List.getElem?_set_ne (by omega)]
            exact HK.out t (by omega)
      case measure => simp [intOf]; omega
    · obtain rfl : j = n := by omega
      go_wp2
      go_ret
      refine ⟨rfl, ?_, HG.out⟩
      have e := cells_eqU HC.out HK.out
      rw [← e]
      exact HO'.out
theorem c_markHNil (k : Int) (w : World) :
    Calls Try.prog 30 #[.slice none 0 0, .int .i64 k] w fun e w' => e = .returned (.int .i64 k) ∧ w = w' := by
  go_enter Try.func30, Try.ntmps30
  go_wp2
  go_loop [1, 5] (fun q i => q = .int .i64 k ∧ i = .int .i64 0) (fun _ _ => 0)
  case atStart => exact ⟨rfl, rfl⟩
  case round =>
    obtain ⟨rfl, rfl⟩ := hrel
    go_wp2
    go_ret
    exact ⟨rfl, rfl⟩
theorem c_markHostS (base n : Nat) (a : Option Addr) (cap : Nat) (k : Int) (vs : List Value) (w : World) (hn : n ≤ 1048576) (hk0 : 0 ≤ k) (hk : k ≤ 1000000000) (h : w.ownsRow base 97 3 (.slice a n cap) n vs) :
    Calls Try.prog 30 #[.slice a n cap, .int .i64 k] w fun e w' => e = .returned (.int .i64 (k + 3 * (n : Int))) ∧
      w'.ownsRow base 97 3 (.slice a n cap) n ((upFrom k (n * 3)).map (Value.int .i64)) ∧ w.grownBy w' (Value.slice a n cap).ownBlock := by
  rcases h.2 with ⟨h1, h2⟩ | ⟨g, c, cur, h1, _⟩
  · injection h1 with h3 h4 h5
    subst h3 h4 h5
    refine (c_markHNil k w).mono ?_
    rintro e w' ⟨rfl, rfl⟩
    exact ⟨by simp, ⟨rfl, .inl ⟨rfl, rfl⟩⟩, World.grownBy.refl _ _⟩
  · injection h1 with h3 _ h5
    subst h3 h5
    refine (c_markHostS' base g n cap k vs w hn hk0 hk h).mono ?_
    rintro e w' ⟨rfl, h1, h2⟩
    exact ⟨rfl, h1, h2⟩
theorem c_szHostS_no (a : Option Addr) (n cap : Nat) (left : Int) (w : World) (hn : n ≤ maxLen) (h0 : 0 ≤ left) (h1 : left ≤ 2000000) (hc : left < n) :
    Calls Try.prog 21 #[.slice a n cap, .int .i64 left] w fun e w' => e = .returned (.int .i64 (-1)) ∧ w = w' := by
  unfold maxLen at hn
  have hc' : left - (n : Int) < 0 := by omega
  go_enter Try.func21, Try.ntmps21
  go_wp2
  go_ret
  exact ⟨rfl, rfl⟩
theorem c_szHostS (a : Option Addr) (n cap : Nat) (left : Int) (w : World) (h1 : left ≤ 2000000) (hc : (n : Int) ≤ left) :
    Calls Try.prog 21 #[.slice a n cap, .int .i64 left] w fun e w' => e = .returned (.int .i64 (left - n)) ∧ w = w' := by
  have hc' : 0 ≤ left - (n : Int) := by omega
  go_enter Try.func21, Try.ntmps21
  go_wp2
  go_ret
  exact ⟨rfl, rfl⟩
end Go.Proofs.Ytdkdfehlmphikaa
