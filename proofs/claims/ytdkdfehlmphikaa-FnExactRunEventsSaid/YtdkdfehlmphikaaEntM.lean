/- Contracts of mark, held, sz over lists of Entry, flat lists of ints. No condition but the bounds that each states. (Printed by wip/mkz.py.) -/
import Derived.Test.YtdkdfehlmphikaaMB
import Derived.Test.YtdkdfehlmphikaaUpF
namespace Go.Proofs.Ytdkdfehlmphikaa
open Go.RowKit
set_option maxHeartbeats 2000000 in
theorem c_markEntryS' (base g n cap : Nat) (k : Int) (vs : List Value) (w : World) (hn : n ≤ 1048576) (hk0 : 0 ≤ k) (hk : k ≤ 1000000000) (h : w.ownsRow base 69 7 (.slice (some ⟨g, 0, none⟩) n cap) n vs) :
    Calls Try.prog 75 #[.slice (some ⟨g, 0, none⟩) n cap, .int .i64 k] w fun e w' => e = .returned (.int .i64 (k + 7 * (n : Int))) ∧
      w'.ownsRow base 69 7 (.slice (some ⟨g, 0, none⟩) n cap) n ((upFrom k (n * 7)).map (Value.int .i64)) ∧ w.grownBy w' (some g) := by
  have HO := Lib.hid h
  clear h
  go_enter Try.func75, Try.ntmps75
  go_wp2
  go_loopw [1, 5] (fun q i wr => ∃ (j : Nat) (C : List Value), j ≤ n ∧ i = .int .i64 j ∧ q = .int .i64 (k + 7 * (j : Int)) ∧ C.length = n * 7 ∧ (∀ t, t < j * 7 → C[t]? = some (.int .i64 (k + (t : Int)))) ∧ wr.ownsRow base 69 7 (.slice (some ⟨g, 0, none⟩) n cap) n C ∧ w.grownBy wr (some g)) (fun _ i _ => n - (intOf i).toNat)
  case atStart => exact ⟨0, _, Nat.zero_le _, rfl, by simp, row_len HO.out, fun j hj => by omega, HO.out, grownBy_rfl _ _⟩
  case round =>
    obtain ⟨j, C, hj, rfl, rfl, hC, hCk, hown, hgr⟩ := hrel
    have HO' := Lib.hid hown
    have HG := Lib.hid hgr
    have HK := Lib.hid hCk
    have HC := Lib.hid hC
    clear hown hgr hCk hC
    by_cases hlt : j < n
    · have hl3 : C.length = n * 7 := HC.out
      have e0 := HO'.out.cellAt (j * 7) (by omega)
      have e1 := HO'.out.cellAt (j * 7 + 1) (by omega)
      have e2 := HO'.out.cellAt (j * 7 + 2) (by omega)
      have e3 := HO'.out.cellAt (j * 7 + 3) (by omega)
      have e4 := HO'.out.cellAt (j * 7 + 4) (by omega)
      have e5 := HO'.out.cellAt (j * 7 + 5) (by omega)
      have e6 := HO'.out.cellAt (j * 7 + 6) (by omega)
      rw [List.getElem?_eq_getElem (by omega)] at e0 e1 e2 e3 e4 e5 e6
      have f0 := HO'.out.frozenAt (j * 7)
      have f1 := HO'.out.frozenAt (j * 7 + 1)
      have f2 := HO'.out.frozenAt (j * 7 + 2)
      have f3 := HO'.out.frozenAt (j * 7 + 3)
      have f4 := HO'.out.frozenAt (j * 7 + 4)
      have f5 := HO'.out.frozenAt (j * 7 + 5)
      have f6 := HO'.out.frozenAt (j * 7 + 6)
      have s0 := HO'.out.stored (j * 7) (.int .i64 (k + 7 * (j : Int)))
      have s1 := s0.1.stored (j * 7 + 1) (.int .i64 (k + 7 * (j : Int) + 1))
      have s2 := s1.1.stored (j * 7 + 2) (.int .i64 (k + 7 * (j : Int) + 1 + 1))
      have s3 := s2.1.stored (j * 7 + 3) (.int .i64 (k + 7 * (j : Int) + 1 + 1 + 1))
      have s4 := s3.1.stored (j * 7 + 4) (.int .i64 (k + 7 * (j : Int) + 1 + 1 + 1 + 1))
      have s5 := s4.1.stored (j * 7 + 5) (.int .i64 (k + 7 * (j : Int) + 1 + 1 + 1 + 1 + 1))
      have s6 := s5.1.stored (j * 7 + 6) (.int .i64 (k + 7 * (j : Int) + 1 + 1 + 1 + 1 + 1 + 1))
      have HS3 := Lib.hid s6.1
      have HG3 := Lib.hid (grownBy_tr HG.out (grownBy_tr s0.2 (grownBy_tr s1.2 (grownBy_tr s2.2 (grownBy_tr s3.2 (grownBy_tr s4.2 (grownBy_tr s5.2 s6.2)))))))
      generalize C[j * 7]'(by omega) = v0 at e0
      generalize C[j * 7 + 1]'(by omega) = v1 at e1
      generalize C[j * 7 + 2]'(by omega) = v2 at e2
      generalize C[j * 7 + 3]'(by omega) = v3 at e3
      generalize C[j * 7 + 4]'(by omega) = v4 at e4
      generalize C[j * 7 + 5]'(by omega) = v5 at e5
      generalize C[j * 7 + 6]'(by omega) = v6 at e6
      clear hl3 s0 s1 s2 s3 s4 s5 s6
      go_wp2
      go_roundw
      case rel =>
        refine ⟨j + 1, _, by omega, by go_num, ?_, ?_, fun t ht => ?_, HS3.out, HG3.out⟩
        · congr 1; omega
        · simp [HC.out]
        · have hl3 := HC.out
          by_cases t6 : t = j * 7 + 6
          · subst t6; rw [List.getElem?_set_self (by first | omega | (simp; omega))]; congr 2; omega
          by_cases t5 : t = j * 7 + 5
          · subst t5; rw [List.getElem?_set_ne (by omega)]; rw [List.getElem?_set_self (by first | omega | (simp; omega))]; congr 2; omega
          by_cases t4 : t = j * 7 + 4
          · subst t4; rw [List.getElem?_set_ne (by omega)]; rw [List.getElem?_set_ne (by omega)]; rw [List.getElem?_set_self (by first | omega | (simp; omega))]; congr 2; omega
          by_cases t3 : t = j * 7 + 3
          · subst t3; rw [List.getElem?_set_ne (by omega)]; rw [List.getElem?_set_ne (by omega)]; rw [List.getElem?_set_ne (by omega)]; rw [List.getElem?_set_self (by first | omega | (simp; omega))]; congr 2; omega
          by_cases t2 : t = j * 7 + 2
          · subst t2; rw [List.getElem?_set_ne (by omega)]; rw [List.getElem?_set_ne (by omega)]; rw [List.getElem?_set_ne (by omega)]; rw [List.getElem?_set_ne (by omega)]; rw [List.getElem?_set_self (by first | omega | (simp; omega))]; congr 2; omega
          by_cases t1 : t = j * 7 + 1
          · subst t1; rw [List.getElem?_set_ne (by omega)]; rw [List.getElem?_set_ne (by omega)]; rw [List.getElem?_set_ne (by omega)]; rw [List.getElem?_set_ne (by omega)]; rw [List.getElem?_set_ne (by omega)]; rw [List.getElem?_set_self (by first | omega | (simp; omega))]; congr 2; omega
          by_cases t0 : t = j * 7
          · subst t0; rw [List.getElem?_set_ne (by omega)]; rw [List.getElem?_set_ne (by omega)]; rw [List.getElem?_set_ne (by omega)]; rw [List.getElem?_set_ne (by omega)]; rw [List.getElem?_set_ne (by omega)]; rw [List.getElem?_set_ne (by omega)]; rw [List.getElem?_set_self (by first | omega | (simp; omega))]; congr 2; omega
          · rw [List.getElem?_set_ne (by omega)]; rw [List.getElem?_set_ne (by omega)]; rw [List.getElem?_set_ne (by omega)]; rw [List.getElem?_set_ne (by omega)]; rw [List.getElem?_set_ne (by omega)]; rw [List.getElem?_set_ne (by omega)]; rw [List.getElem?_set_ne (by omega)]; exact HK.out t (by omega)
      case measure => simp [intOf]; omega
    · obtain rfl : j = n := by omega
      go_wp2
      go_ret
      refine ⟨rfl, ?_, HG.out⟩
      have e := cells_eqU HC.out HK.out
      rw [← e]
      exact HO'.out
theorem c_markEntryNil (k : Int) (w : World) :
    Calls Try.prog 75 #[.slice none 0 0, .int .i64 k] w fun e w' => e = .returned (.int .i64 k) ∧ w = w' := by
  go_enter Try.func75, Try.ntmps75
  go_wp2
  go_loop [1, 5] (fun q i => q = .int .i64 k ∧ i = .int .i64 0) (fun _ _ => 0)
  case atStart => exact ⟨rfl, rfl⟩
  case round =>
    obtain ⟨rfl, rfl⟩ := hrel
    go_wp2
    go_ret
    exact ⟨rfl, rfl⟩
theorem c_markEntryS (base n : Nat) (a : Option Addr) (cap : Nat) (k : Int) (vs : List Value) (w : World) (hn : n ≤ 1048576) (hk0 : 0 ≤ k) (hk : k ≤ 1000000000) (h : w.ownsRow base 69 7 (.slice a n cap) n vs) :
    Calls Try.prog 75 #[.slice a n cap, .int .i64 k] w fun e w' => e = .returned (.int .i64 (k + 7 * (n : Int))) ∧
      w'.ownsRow base 69 7 (.slice a n cap) n ((upFrom k (n * 7)).map (Value.int .i64)) ∧ w.grownBy w' (Value.slice a n cap).ownBlock := by
  rcases h.2 with ⟨h1, h2⟩ | ⟨g, c, cur, h1, _⟩
  · injection h1 with h3 h4 h5
    subst h3 h4 h5
    refine (c_markEntryNil k w).mono ?_
    rintro e w' ⟨rfl, rfl⟩
    exact ⟨by simp, ⟨rfl, .inl ⟨rfl, rfl⟩⟩, World.grownBy.refl _ _⟩
  · injection h1 with h3 _ h5
    subst h3 h5
    refine (c_markEntryS' base g n cap k vs w hn hk0 hk h).mono ?_
    rintro e w' ⟨rfl, h1, h2⟩
    exact ⟨rfl, h1, h2⟩
set_option maxHeartbeats 2000000 in
theorem c_heldEntryS (a : Option Addr) (n cap : Nat) (k : Int) (w : World) (hn : n ≤ 1048576) (hk0 : 0 ≤ k) (hk : k ≤ 1000000000) (h : Vals w a ((upFrom k (n * 7)).map (Value.int .i64))) :
    Calls Try.prog 76 #[.slice a n cap, .int .i64 k] w fun e w' => e = .returned (.int .i64 (k + 7 * (n : Int))) ∧ w = w' := by
  have HI := Lib.hid h
  clear h
  go_enter Try.func76, Try.ntmps76
  go_wp2
  go_loop [1, 5] (fun q i => ∃ (j : Nat), j ≤ n ∧ i = .int .i64 j ∧ q = .int .i64 (k + 7 * (j : Int))) (fun _ i => n - (intOf i).toNat)
  case atStart => exact ⟨0, Nat.zero_le _, rfl, by simp⟩
  case round =>
    obtain ⟨j, hj, rfl, rfl⟩ := hrel
    by_cases hlt : j < n
    · rcases HI.out with h0 | ⟨b, off, ha, hb, hcell⟩
      · have := congrArg List.length h0; simp [upFrom_len] at this; omega
      · have c0 := hcell _ _ (upF_get k (n * 7) (j * 7) (by omega))
        have c1 := hcell _ _ (upF_get k (n * 7) (j * 7 + 1) (by omega))
        have c2 := hcell _ _ (upF_get k (n * 7) (j * 7 + 2) (by omega))
        have c3 := hcell _ _ (upF_get k (n * 7) (j * 7 + 3) (by omega))
        have c4 := hcell _ _ (upF_get k (n * 7) (j * 7 + 4) (by omega))
        have c5 := hcell _ _ (upF_get k (n * 7) (j * 7 + 5) (by omega))
        have c6 := hcell _ _ (upF_get k (n * 7) (j * 7 + 6) (by omega))
        rw [show k + ((j * 7 : Nat) : Int) = k + 7 * (j : Int) from by omega] at c0
        rw [show k + ((j * 7 + 1 : Nat) : Int) = k + 7 * (j : Int) + 1 from by omega, ← Nat.add_assoc] at c1
        rw [show k + ((j * 7 + 2 : Nat) : Int) = k + 7 * (j : Int) + 1 + 1 from by omega, ← Nat.add_assoc] at c2
        rw [show k + ((j * 7 + 3 : Nat) : Int) = k + 7 * (j : Int) + 1 + 1 + 1 from by omega, ← Nat.add_assoc] at c3
        rw [show k + ((j * 7 + 4 : Nat) : Int) = k + 7 * (j : Int) + 1 + 1 + 1 + 1 from by omega, ← Nat.add_assoc] at c4
        rw [show k + ((j * 7 + 5 : Nat) : Int) = k + 7 * (j : Int) + 1 + 1 + 1 + 1 + 1 from by omega, ← Nat.add_assoc] at c5
        rw [show k + ((j * 7 + 6 : Nat) : Int) = k + 7 * (j : Int) + 1 + 1 + 1 + 1 + 1 + 1 from by omega, ← Nat.add_assoc] at c6
        subst ha
        clear hcell
        go_wp2
        go_round
        case rel => exact ⟨j + 1, by omega, by go_num, by congr 1; omega⟩
        case measure => simp [intOf]; omega
    · obtain rfl : j = n := by omega
      go_wp2
      go_ret
      exact ⟨rfl, rfl⟩
theorem c_szEntryS_no (a : Option Addr) (n cap : Nat) (left : Int) (w : World) (hn : n ≤ maxLen) (h0 : 0 ≤ left) (h1 : left ≤ 2000000) (hc : left < n) :
    Calls Try.prog 65 #[.slice a n cap, .int .i64 left] w fun e w' => e = .returned (.int .i64 (-1)) ∧ w = w' := by
  unfold maxLen at hn
  have hc' : left - (n : Int) < 0 := by omega
  go_enter Try.func65, Try.ntmps65
  go_wp2
  go_ret
  exact ⟨rfl, rfl⟩
theorem c_szEntryS (a : Option Addr) (n cap : Nat) (left : Int) (w : World) (h1 : left ≤ 2000000) (hc : (n : Int) ≤ left) :
    Calls Try.prog 65 #[.slice a n cap, .int .i64 left] w fun e w' => e = .returned (.int .i64 (left - n)) ∧ w = w' := by
  have hc' : 0 ≤ left - (n : Int) := by omega
  go_enter Try.func65, Try.ntmps65
  go_wp2
  go_ret
  exact ⟨rfl, rfl⟩
end Go.Proofs.Ytdkdfehlmphikaa
