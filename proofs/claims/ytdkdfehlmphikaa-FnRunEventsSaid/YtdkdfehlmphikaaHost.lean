/- Pools: lists of hosts as flat cells; contracts of PoolValid, of the program and of the reference. No condition but lists of at most 2^20 hosts. -/
import Derived.Test.YtdkdfehlmphikaaMG
import Derived.Test.YtdkdfehlmphikaaMA
namespace Go.Proofs.Ytdkdfehlmphikaa
open Go.RowKit
/-- A host: number, weight, state. -/
abbrev H3 := Int × Int × Int
def hcell (h : H3) : List Value := [.int .i64 h.1, .int .i64 h.2.1, .int .i64 h.2.2]
def hcells (hs : List H3) : List Value := hs.flatMap hcell
theorem hcells_len (hs : List H3) : (hcells hs).length = hs.length * 3 := by
  induction hs with
  | nil => rfl
  | cons h r ih => simp only [hcells, List.flatMap_cons, List.length_append, List.length_cons] at *; rw [ih]; simp [hcell]; omega
theorem hcells_get : ∀ (hs : List H3) (k : Nat), k < hs.length → (hcells hs)[k * 3]? = some (.int .i64 (hs.getD k (0, 0, 0)).1) ∧ (hcells hs)[k * 3 + 1]? = some (.int .i64 (hs.getD k (0, 0, 0)).2.1) ∧ (hcells hs)[k * 3 + 2]? = some (.int .i64 (hs.getD k (0, 0, 0)).2.2)
  | [], k, h => by simp at h
  | x :: r, 0, _ => by simp [hcells, hcell]
  | x :: r, k + 1, h => by
    obtain ⟨h1, h2, h3⟩ := hcells_get r k (by simpa using h)
    have e : hcells (x :: r) = hcell x ++ hcells r := rfl
    have e1 : ∀ j, (hcells (x :: r))[(k + 1) * 3 + j]? = (hcells r)[k * 3 + j]? := fun j => by
      rw [e, List.getElem?_append_right (by simp [hcell]; omega)]
      simp only [hcell, List.length_cons, List.length_nil]
      rw [show (k + 1) * 3 + j - (0 + 1 + 1 + 1) = k * 3 + j from by omega]
    have g : (x :: r).getD (k + 1) (0, 0, 0) = r.getD k (0, 0, 0) := by simp [List.getD_eq_getElem?_getD]
    rw [g]
    exact ⟨(e1 0).trans h1, (e1 1).trans h2, (e1 2).trans h3⟩
/-- What is read of a pool. -/
def Hosts (w : World) (a : Option Addr) (hs : List H3) : Prop := Vals w a (hcells hs)
theorem Hosts.below {w w' : World} {a : Option Addr} {hs : List H3} (h : Hosts w a hs) (hb : Below w.heap.size w w') : Hosts w' a hs := Vals.below h hb
theorem Hosts.at {w : World} {a : Option Addr} {hs : List H3} {n k : Nat} (h : Hosts w a hs) (hl : hs.length = n) (hk : k < n) :
    ∃ b off, a = some ⟨b, off, none⟩ ∧ b < w.heap.size ∧ ∀ j, j < n → w.cell? ⟨b, off + j * 3, none⟩ = some (.int .i64 (hs.getD j (0, 0, 0)).1) ∧ w.cell? ⟨b, off + j * 3 + 1, none⟩ = some (.int .i64 (hs.getD j (0, 0, 0)).2.1) ∧ w.cell? ⟨b, off + j * 3 + 2, none⟩ = some (.int .i64 (hs.getD j (0, 0, 0)).2.2) := by
  rcases h with h | ⟨b, off, ha, hlt, hc⟩
  · have := congrArg List.length h
    rw [hcells_len] at this; simp at this; omega
  · refine ⟨b, off, ha, hlt, fun j hj => ?_⟩
    obtain ⟨h1, h2, h3⟩ := hcells_get hs j (by omega)
    exact ⟨hc _ _ h1, hc _ _ h2, hc _ _ h3⟩
def hOk (hs : List H3) (k : Nat) : Bool := inB (hs.getD k (0, 0, 0)).1 0 30 && (decide (k = 0) || decide ((hs.getD (k - 1) (0, 0, 0)).1 < (hs.getD k (0, 0, 0)).1)) && inB (hs.getD k (0, 0, 0)).2.1 1 5 && inB (hs.getD k (0, 0, 0)).2.2 0 2
/-- A pool is valid. -/
def pv (hs : List H3) : Bool := (List.range hs.length).all (hOk hs) && decide (hs.length ≤ 6)
theorem pv_not {hs : List H3} {k : Nat} (hk : k < hs.length) (h : hOk hs k = false) : pv hs = false := by
  rw [← Bool.not_eq_true]
  intro h'
  simp only [pv, Bool.and_eq_true, List.all_eq_true, List.mem_range] at h'
  rw [h'.1 k hk] at h; cases h
theorem pv_of {hs : List H3} (h : ∀ j, j < hs.length → hOk hs j = true) : pv hs = decide (hs.length ≤ 6) := by
  have : (List.range hs.length).all (hOk hs) = true := by
    simp only [List.all_eq_true, List.mem_range]; exact h
  rw [pv, this, Bool.true_and]
set_option maxHeartbeats 2000000 in
theorem c_PoolValid (a : Option Addr) (n cap : Nat) (hs : List H3) (w : World) (hxs : hs.length = n) (hn : n ≤ 1048576) (h : Hosts w a hs) :
    Calls Try.prog 57 #[.slice a n cap] w fun e w' => e = .returned (.bool (pv hs)) ∧ Below w.heap.size w w' := by
  have HX := Lib.hid hxs
  have HI := Lib.hid h
  clear h hxs
  go_enter Try.func57, Try.ntmps57
  go_wp2
  go_loopw [7] (fun i wr => ∃ (k : Nat), k ≤ n ∧ i = .int .i64 k ∧ Below w.heap.size w wr ∧ Hid (∀ j, j < k → hOk hs j = true)) (fun i _ => n - (intOf i).toNat)
  case atStart => exact ⟨0, Nat.zero_le _, rfl, Below.refl _ _, Lib.hid fun j hj => by omega⟩
  case round =>
    obtain ⟨k, hk, rfl, hG, HV⟩ := hrel
    have HG := Lib.hid hG
    have hz := hG.size
    clear hG
    by_cases hlt : k < n
    · obtain ⟨b, off, rfl, hb, hc⟩ := (HI.out.below HG.out).at HX.out hlt
      obtain ⟨c0, c1, c2⟩ := hc k hlt
      have hcp := Lib.hid (fun (_ : 0 < k) => (hc (k - 1) (by omega)).1)
      have HT : Hid (hOk hs k = (inB (hs.getD k (0, 0, 0)).1 0 30 && (decide (k = 0) || decide ((hs.getD (k - 1) (0, 0, 0)).1 < (hs.getD k (0, 0, 0)).1)) && inB (hs.getD k (0, 0, 0)).2.1 1 5 && inB (hs.getD k (0, 0, 0)).2.2 0 2)) := Lib.hid rfl
      clear hc
      generalize (hs.getD k (0, 0, 0)).1 = N at *
      generalize (hs.getD k (0, 0, 0)).2.1 = W at *
      generalize (hs.getD k (0, 0, 0)).2.2 = S at *
      cases h1 : inB N 0 30
      · have HBad : Hid (hOk hs k = false) := Lib.hid (by rw [HT.out, h1]; simp)
        have HR := Lib.hid (pv_not (hs := hs) (k := k) (by have := HX.out; omega) HBad.out)
        go_wp2
        go_quiet ((go_at_call 63; exact Calls.quiet_of_same (q_in _ _ _ _)))
        go_wp2
        go_ret
        exact ⟨ret_bool HR.out.symm, below_drewN (HG.out.alloc hz _) _⟩
      · by_cases hk0 : k = 0
        · have HT2 : Hid (hOk hs k = (inB W 1 5 && inB S 0 2)) := Lib.hid (by rw [HT.out, h1, decide_eq_true hk0]; simp)
          have hk1 : decide (0 < k) = false := by simp; omega
          clear hk0
          cases h2 : inB W 1 5
          · have HBad : Hid (hOk hs k = false) := Lib.hid (by rw [HT2.out, h2]; simp)
            have HR := Lib.hid (pv_not (hs := hs) (k := k) (by have := HX.out; omega) HBad.out)
            go_wp2
            go_quiet ((go_at_call 63; exact Calls.quiet_of_same (q_in _ _ _ _)))
            go_wp2
            go_ret
            exact ⟨ret_bool HR.out.symm, below_drewN (HG.out.alloc hz _) _⟩
          cases h3 : inB S 0 2
          · have HBad : Hid (hOk hs k = false) := Lib.hid (by rw [HT2.out, h3]; simp)
            have HR := Lib.hid (pv_not (hs := hs) (k := k) (by have := HX.out; omega) HBad.out)
            go_wp2
            go_quiet ((go_at_call 63; exact Calls.quiet_of_same (q_in _ _ _ _)))
            go_wp2
            go_ret
            exact ⟨ret_bool HR.out.symm, below_drewN (HG.out.alloc hz _) _⟩
          have HGood : Hid (hOk hs k = true) := Lib.hid (by rw [HT2.out, h2, h3]; rfl)
          go_wp2
          go_quiet ((go_at_call 63; exact Calls.quiet_of_same (q_in _ _ _ _)))
          go_wp2
          go_roundw
          case rel =>
            refine ⟨k + 1, by omega, by go_num, below_drewN (HG.out.alloc hz _) _, Lib.hid fun j hj => ?_⟩
            by_cases hjk : j = k
            · subst hjk; exact HGood.out
            · exact HV.out j (by omega)
          case measure => simp [intOf]; omega
        · have hk1 : decide (0 < k) = true := by simp; omega
          have hcy := hcp.out (by omega)
          have hi1 : IntKind.i64.wrap ((k : Int) - 1) = (k : Int) - 1 := IntWalk.i64_in _ (by omega)
          have hi2 : ((k : Int) - 1).toNat = k - 1 := by omega
          have hi3 : 0 ≤ (k : Int) - 1 := by omega
          have hi4 : (k : Int) - 1 < (n : Int) := by omega
          generalize (hs.getD (k - 1) (0, 0, 0)).1 = M at *
          have hcy2 : (wr.alloc (.cells #[.int .i64 N, .int .i64 W, .int .i64 S] 97)).cell? ⟨b, off + (k - 1) * 3, none⟩ = some (.int .i64 M) := keep hcy _
          by_cases hle : N ≤ M
          · have HBad : Hid (hOk hs k = false) := Lib.hid (by rw [HT.out, decide_eq_false hk0, decide_eq_false (show ¬ M < N by omega)]; simp)
            have HR := Lib.hid (pv_not (hs := hs) (k := k) (by have := HX.out; omega) HBad.out)
            go_wp2
            go_quiet ((go_at_call 63; exact Calls.quiet_of_same (q_in _ _ _ _)))
            go_wp2
            go_ret
            exact ⟨ret_bool HR.out.symm, below_drewN (HG.out.alloc hz _) _⟩
          · have hle2 : decide (N ≤ M) = false := by simp; omega
            have HT2 : Hid (hOk hs k = (inB W 1 5 && inB S 0 2)) := Lib.hid (by rw [HT.out, h1, decide_eq_true (show M < N by omega)]; simp)
            cases h2 : inB W 1 5
            · have HBad : Hid (hOk hs k = false) := Lib.hid (by rw [HT2.out, h2]; simp)
              have HR := Lib.hid (pv_not (hs := hs) (k := k) (by have := HX.out; omega) HBad.out)
              go_wp2
              go_quiet ((go_at_call 63; exact Calls.quiet_of_same (q_in _ _ _ _)))
              go_wp2
              go_ret
              exact ⟨ret_bool HR.out.symm, below_drewN (HG.out.alloc hz _) _⟩
            cases h3 : inB S 0 2
            · have HBad : Hid (hOk hs k = false) := Lib.hid (by rw [HT2.out, h3]; simp)
              have HR := Lib.hid (pv_not (hs := hs) (k := k) (by have := HX.out; omega) HBad.out)
              go_wp2
              go_quiet ((go_at_call 63; exact Calls.quiet_of_same (q_in _ _ _ _)))
              go_wp2
              go_ret
              exact ⟨ret_bool HR.out.symm, below_drewN (HG.out.alloc hz _) _⟩
            have HGood : Hid (hOk hs k = true) := Lib.hid (by rw [HT2.out, h2, h3]; rfl)
            go_wp2
            go_quiet ((go_at_call 63; exact Calls.quiet_of_same (q_in _ _ _ _)))
            go_wp2
            go_roundw
            case rel =>
              refine ⟨k + 1, by omega, by go_num, below_drewN (HG.out.alloc hz _) _, Lib.hid fun j hj => ?_⟩
              by_cases hjk : j = k
              · subst hjk; exact HGood.out
              · exact HV.out j (by omega)
            case measure => simp [intOf]; omega
    · obtain rfl : k = n := by omega
      have HR := Lib.hid (pv_of (hs := hs) (by rw [HX.out]; exact HV.out))
      by_cases h6 : k ≤ 6
      · have h6' : (k : Int) ≤ 6 := by omega
        go_wp2
        go_ret
        exact ⟨ret_bool (by rw [HR.out, HX.out, decide_eq_true h6]), HG.out⟩
      · have h6' : ¬ (k : Int) ≤ 6 := by omega
        go_wp2
        go_ret
        exact ⟨ret_bool (by rw [HR.out, HX.out, decide_eq_false h6]), HG.out⟩
set_option maxHeartbeats 2000000 in
theorem s_PoolValid (a : Option Addr) (n cap : Nat) (hs : List H3) (w : World) (hxs : hs.length = n) (hn : n ≤ 1048576) (h : Hosts w a hs) :
    Calls Try.prog 59 #[.slice a n cap] w fun e w' => e = .returned (.bool (pv hs)) ∧ Below w.heap.size w w' := by
  have HX := Lib.hid hxs
  have HI := Lib.hid h
  clear h hxs
  go_enter Try.func59, Try.ntmps59
  go_wp2
  go_loopw [3] (fun i wr => ∃ (k : Nat), k ≤ n ∧ i = .int .i64 k ∧ Below w.heap.size w wr ∧ Hid (∀ j, j < k → hOk hs j = true)) (fun i _ => n - (intOf i).toNat)
  case atStart => exact ⟨0, Nat.zero_le _, rfl, Below.refl _ _, Lib.hid fun j hj => by omega⟩
  case round =>
    obtain ⟨k, hk, rfl, hG, HV⟩ := hrel
    have HG := Lib.hid hG
    have hz := hG.size
    clear hG
    by_cases hlt : k < n
    · obtain ⟨b, off, rfl, hb, hc⟩ := (HI.out.below HG.out).at HX.out hlt
      obtain ⟨c0, c1, c2⟩ := hc k hlt
      have hcp := Lib.hid (fun (_ : 0 < k) => (hc (k - 1) (by omega)).1)
      have HT : Hid (hOk hs k = (inB (hs.getD k (0, 0, 0)).1 0 30 && (decide (k = 0) || decide ((hs.getD (k - 1) (0, 0, 0)).1 < (hs.getD k (0, 0, 0)).1)) && inB (hs.getD k (0, 0, 0)).2.1 1 5 && inB (hs.getD k (0, 0, 0)).2.2 0 2)) := Lib.hid rfl
      clear hc
      generalize (hs.getD k (0, 0, 0)).1 = N at *
      generalize (hs.getD k (0, 0, 0)).2.1 = W at *
      generalize (hs.getD k (0, 0, 0)).2.2 = S at *
      cases h1 : inB N 0 30
      · have HBad : Hid (hOk hs k = false) := Lib.hid (by rw [HT.out, h1]; simp)
        have HR := Lib.hid (pv_not (hs := hs) (k := k) (by have := HX.out; omega) HBad.out)
        go_wp2
        go_quiet ((go_at_call 87; exact Calls.quiet_of_same (q_l1In' _ _ _ _)))
        go_wp2
        go_ret
        exact ⟨ret_bool HR.out.symm, below_drewN HG.out _⟩
      cases h2 : inB W 1 5
      · have HBad : Hid (hOk hs k = false) := Lib.hid (by rw [HT.out, h2]; simp)
        have HR := Lib.hid (pv_not (hs := hs) (k := k) (by have := HX.out; omega) HBad.out)
        go_wp2
        go_quiet ((go_at_call 87; exact Calls.quiet_of_same (q_l1In' _ _ _ _)))
        go_wp2
        go_ret
        exact ⟨ret_bool HR.out.symm, below_drewN HG.out _⟩
      cases h3 : inB S 0 2
      · have HBad : Hid (hOk hs k = false) := Lib.hid (by rw [HT.out, h3]; simp)
        have HR := Lib.hid (pv_not (hs := hs) (k := k) (by have := HX.out; omega) HBad.out)
        go_wp2
        go_quiet ((go_at_call 87; exact Calls.quiet_of_same (q_l1In' _ _ _ _)))
        go_wp2
        go_ret
        exact ⟨ret_bool HR.out.symm, below_drewN HG.out _⟩
      by_cases hk0 : k = 0
      · have HGood : Hid (hOk hs k = true) := Lib.hid (by rw [HT.out, h1, h2, h3, decide_eq_true hk0]; rfl)
        have hk1 : decide (0 < k) = false := by simp; omega
        clear hk0
        go_wp2
        go_quiet ((go_at_call 87; exact Calls.quiet_of_same (q_l1In' _ _ _ _)))
        go_wp2
        go_roundw
        case rel =>
          refine ⟨k + 1, by omega, by go_num, below_drewN HG.out _, Lib.hid fun j hj => ?_⟩
          by_cases hjk : j = k
          · subst hjk; exact HGood.out
          · exact HV.out j (by omega)
        case measure => simp [intOf]; omega
      · have hk1 : decide (0 < k) = true := by simp; omega
        have hcy := hcp.out (by omega)
        have hi1 : IntKind.i64.wrap ((k : Int) - 1) = (k : Int) - 1 := IntWalk.i64_in _ (by omega)
        have hi2 : ((k : Int) - 1).toNat = k - 1 := by omega
        have hi3 : 0 ≤ (k : Int) - 1 := by omega
        have hi4 : (k : Int) - 1 < (n : Int) := by omega
        generalize (hs.getD (k - 1) (0, 0, 0)).1 = M at *
        by_cases hle : N ≤ M
        · have HBad : Hid (hOk hs k = false) := Lib.hid (by rw [HT.out, decide_eq_false hk0, decide_eq_false (show ¬ M < N by omega)]; simp)
          have HR := Lib.hid (pv_not (hs := hs) (k := k) (by have := HX.out; omega) HBad.out)
          go_wp2
          go_quiet ((go_at_call 87; exact Calls.quiet_of_same (q_l1In' _ _ _ _)))
          go_wp2
          go_ret
          exact ⟨ret_bool HR.out.symm, below_drewN HG.out _⟩
        · have hle2 : decide (N ≤ M) = false := by simp; omega
          have HGood : Hid (hOk hs k = true) := Lib.hid (by rw [HT.out, h1, h2, h3, decide_eq_true (show M < N by omega)]; simp)
          go_wp2
          go_quiet ((go_at_call 87; exact Calls.quiet_of_same (q_l1In' _ _ _ _)))
          go_wp2
          go_roundw
          case rel =>
            refine ⟨k + 1, by omega, by go_num, below_drewN HG.out _, Lib.hid fun j hj => ?_⟩
            by_cases hjk : j = k
            · subst hjk; exact HGood.out
            · exact HV.out j (by omega)
          case measure => simp [intOf]; omega
    · obtain rfl : k = n := by omega
      have HR := Lib.hid (pv_of (hs := hs) (by rw [HX.out]; exact HV.out))
      by_cases h6 : k ≤ 6
      · have h6' : (k : Int) ≤ 6 := by omega
        go_wp2
        go_ret
        exact ⟨ret_bool (by rw [HR.out, HX.out, decide_eq_true h6]), HG.out⟩
      · have h6' : ¬ (k : Int) ≤ 6 := by omega
        go_wp2
        go_ret
        exact ⟨ret_bool (by rw [HR.out, HX.out, decide_eq_false h6]), HG.out⟩
end Go.Proofs.Ytdkdfehlmphikaa
