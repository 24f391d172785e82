/- Contracts of mark, held, sz over lists of Event, flat lists of ints. No condition but the bounds that each states. (Printed by wip/mkz.py.) -/
import Derived.Test.YtdkdfehlmphikaaEvtE
import Derived.Test.YtdkdfehlmphikaaUpF
namespace Go.Proofs.Ytdkdfehlmphikaa
open Go.RowKit
set_option maxHeartbeats 2000000 in
theorem c_markEventS' (base g n cap : Nat) (k : Int) (vs : List Value) (w : World) (hn : n ≤ 1048576) (hk0 : 0 ≤ k) (hk : k ≤ 1000000000) (h : w.ownsRow base 39 6 (.slice (some ⟨g, 0, none⟩) n cap) n vs) :
    Calls Try.prog 37 #[.slice (some ⟨g, 0, none⟩) n cap, .int .i64 k] w fun e w' => e = .returned (.int .i64 (k + 6 * (n : Int))) ∧
      w'.ownsRow base 39 6 (.slice (some ⟨g, 0, none⟩) n cap) n ((upFrom k (n * 6)).map (Value.int .i64)) ∧ w.grownBy w' (some g) := by
  have HO := Lib.hid h
  clear h
  go_enter Try.func37, Try.ntmps37
  go_wp2
  go_loopw [1, 5] (fun q i wr => ∃ (j : Nat) (C : List Value), j ≤ n ∧ i = .int .i64 j ∧ q = .int .i64 (k + 6 * (j : Int)) ∧ C.length = n * 6 ∧ (∀ t, t < j * 6 → C[t]? = some (.int .i64 (k + (t : Int)))) ∧ wr.ownsRow base 39 6 (.slice (some ⟨g, 0, none⟩) n cap) n C ∧ w.grownBy wr (some g)) (fun _ i _ => n - (intOf i).toNat)
  case atStart => exact ⟨0, _, Nat.zero_le _, rfl, by simp, row_len HO.out, fun j hj => by omega, HO.out, grownBy_rfl _ _⟩
  case round =>
    obtain ⟨j, C, hj, rfl, rfl, hC, hCk, hown, hgr⟩ := hrel
    have HO' := Lib.hid hown
    have HG := Lib.hid hgr
    have HK := Lib.hid hCk
    have HC := Lib.hid hC
    clear hown hgr hCk hC
    by_cases hlt : j < n
    · have hl3 : C.length = n * 6 := HC.out
      have e0 := HO'.out.cellAt (j * 6) (by omega)
      have e1 := HO'.out.cellAt (j * 6 + 1) (by omega)
      have e2 := HO'.out.cellAt (j * 6 + 2) (by omega)
      have e3 := HO'.out.cellAt (j * 6 + 3) (by omega)
      have e4 := HO'.out.cellAt (j * 6 + 4) (by omega)
      have e5 := HO'.out.cellAt (j * 6 + 5) (by omega)
      rw [List.getElem?_eq_getElem (by omega)] at e0 e1 e2 e3 e4 e5
      have f0 := HO'.out.frozenAt (j * 6)
      have f1 := HO'.out.frozenAt (j * 6 + 1)
      have f2 := HO'.out.frozenAt (j * 6 + 2)
      have f3 := HO'.out.frozenAt (j * 6 + 3)
      have f4 := HO'.out.frozenAt (j * 6 + 4)
      have f5 := HO'.out.frozenAt (j * 6 + 5)
      have s0 := HO'.out.stored (j * 6) (.int .i64 (k + 6 * (j : Int)))
      have s1 := s0.1.stored (j * 6 + 1) (.int .i64 (k + 6 * (j : Int) + 1))
      have s2 := s1.1.stored (j * 6 + 2) (.int .i64 (k + 6 * (j : Int) + 1 + 1))
      have s3 := s2.1.stored (j * 6 + 3) (.int .i64 (k + 6 * (j : Int) + 1 + 1 + 1))
      have s4 := s3.1.stored (j * 6 + 4) (.int .i64 (k + 6 * (j : Int) + 1 + 1 + 1 + 1))
      have s5 := s4.1.stored (j * 6 + 5) (.int .i64 (k + 6 * (j : Int) + 1 + 1 + 1 + 1 + 1))
      have HS3 := Lib.hid s5.1
      have HG3 := Lib.hid (grownBy_tr HG.out (grownBy_tr s0.2 (grownBy_tr s1.2 (grownBy_tr s2.2 (grownBy_tr s3.2 (grownBy_tr s4.2 s5.2))))))
      generalize C[j * 6]'(by omega) = v0 at e0
      generalize C[j * 6 + 1]'(by omega) = v1 at e1
      generalize C[j * 6 + 2]'(by omega) = v2 at e2
      generalize C[j * 6 + 3]'(by omega) = v3 at e3
      generalize C[j * 6 + 4]'(by omega) = v4 at e4
      generalize C[j * 6 + 5]'(by omega) = v5 at e5
      clear hl3 s0 s1 s2 s3 s4 s5
      go_wp2
      go_roundw
      case rel =>
        refine ⟨j + 1, _, by omega, by go_num, ?_, ?_, fun t ht => ?_, HS3.out, HG3.out⟩
        · congr 1; omega
        · simp [HC.out]
        · have hl3 := HC.out
          by_cases t5 : t = j * 6 + 5
          · subst t5; rw [List.getElem?_set_self (by first | omega | (simp; omega))]; congr 2; omega
          by_cases t4 : t = j * 6 + 4
          · subst t4; rw [List.getElem?_set_ne (by omega)]; rw [List.getElem?_set_self (by first | omega | (simp; omega))]; congr 2; omega
          by_cases t3 : t = j * 6 + 3
          · subst t3; rw [List.getElem?_set_ne (by omega)]; rw [List.getElem?_set_ne (by omega)]; rw [List.getElem?_set_self (by first | omega | (simp; omega))]; congr 2; omega
          by_cases t2 : t = j * 6 + 2
          · subst t2; rw [List.getElem?_set_ne (by omega)]; rw [List.getElem?_set_ne (by omega)]; rw [List.getElem?_set_ne (by omega)]; rw [List.getElem?_set_self (by first | omega | (simp; omega))]; congr 2; omega
          by_cases t1 : t = j * 6 + 1
          · subst t1; rw [List.getElem?_set_ne (by omega)]; rw [List.getElem?_set_ne (by omega)]; rw [List.getElem?_set_ne (by omega)]; rw [List.getElem?_set_ne (by omega)]; rw [List.getElem?_set_self (by first | omega | (simp; omega))]; congr 2; omega
          by_cases t0 : t = j * 6
          · subst t0; rw [List.getElem?_set_ne (by omega)]; rw [List.getElem?_set_ne (by omega)]; rw [List.getElem?_set_ne (by omega)]; rw [List.getElem?_set_ne (by omega)]; rw [List.getElem?_set_ne (by omega)]; rw [List.getElem?_set_self (by first | omega | (simp; omega))]; congr 2; omega
          · rw [List.getElem?_set_ne (by omega)]; rw [List.getElem?_set_ne (by omega)]; rw [List.getElem?_set_ne (by omega)]; rw [List.getElem?_set_ne (by omega)]; rw [List.getElem?_set_ne (by omega)]; rw [List.getElem?_set_ne (by omega)]; exact HK.out t (by omega)
      case measure => simp [intOf]; omega
    · obtain rfl : j = n := by omega
      go_wp2
      go_ret
      refine ⟨rfl, ?_, HG.out⟩
      have e := cells_eqU HC.out HK.out
      rw [← e]
      exact HO'.out
theorem c_markEventNil (k : Int) (w : World) :
    Calls Try.prog 37 #[.slice none 0 0, .int .i64 k] w fun e w' => e = .returned (.int .i64 k) ∧ w = w' := by
  go_enter Try.func37, Try.ntmps37
  go_wp2
  go_loop [1, 5] (fun q i => q = .int .i64 k ∧ i = .int .i64 0) (fun _ _ => 0)
  case atStart => exact ⟨rfl, rfl⟩
  case round =>
    obtain ⟨rfl, rfl⟩ := hrel
    go_wp2
    go_ret
    exact ⟨rfl, rfl⟩
theorem c_markEventS (base n : Nat) (a : Option Addr) (cap : Nat) (k : Int) (vs : List Value) (w : World) (hn : n ≤ 1048576) (hk0 : 0 ≤ k) (hk : k ≤ 1000000000) (h : w.ownsRow base 39 6 (.slice a n cap) n vs) :
    Calls Try.prog 37 #[.slice a n cap, .int .i64 k] w fun e w' => e = .returned (.int .i64 (k + 6 * (n : Int))) ∧
      w'.ownsRow base 39 6 (.slice a n cap) n ((upFrom k (n * 6)).map (Value.int .i64)) ∧ w.grownBy w' (Value.slice a n cap).ownBlock := by
  rcases h.2 with ⟨h1, h2⟩ | ⟨g, c, cur, h1, _⟩
  · injection h1 with h3 h4 h5
    subst h3 h4 h5
    refine (c_markEventNil k w).mono ?_
    rintro e w' ⟨rfl, rfl⟩
    exact ⟨by simp, ⟨rfl, .inl ⟨rfl, rfl⟩⟩, World.grownBy.refl _ _⟩
  · injection h1 with h3 _ h5
    subst h3 h5
    refine (c_markEventS' base g n cap k vs w hn hk0 hk h).mono ?_
    rintro e w' ⟨rfl, h1, h2⟩
    exact ⟨rfl, h1, h2⟩
theorem c_szEventS_no (a : Option Addr) (n cap : Nat) (left : Int) (w : World) (hn : n ≤ maxLen) (h0 : 0 ≤ left) (h1 : left ≤ 2000000) (hc : left < n) :
    Calls Try.prog 33 #[.slice a n cap, .int .i64 left] w fun e w' => e = .returned (.int .i64 (-1)) ∧ w = w' := by
  unfold maxLen at hn
  have hc' : left - (n : Int) < 0 := by omega
  go_enter Try.func33, Try.ntmps33
  go_wp2
  go_ret
  exact ⟨rfl, rfl⟩
theorem c_szEventS (a : Option Addr) (n cap : Nat) (left : Int) (w : World) (h1 : left ≤ 2000000) (hc : (n : Int) ≤ left) :
    Calls Try.prog 33 #[.slice a n cap, .int .i64 left] w fun e w' => e = .returned (.int .i64 (left - n)) ∧ w = w' := by
  have hc' : 0 ≤ left - (n : Int) := by omega
  go_enter Try.func33, Try.ntmps33
  go_wp2
  go_ret
  exact ⟨rfl, rfl⟩
end Go.Proofs.Ytdkdfehlmphikaa
