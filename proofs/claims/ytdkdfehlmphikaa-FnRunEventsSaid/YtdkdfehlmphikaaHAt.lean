/- Contracts of hostAt and HostState. No condition but lists of at most 2^20 hosts. -/
import Derived.Test.YtdkdfehlmphikaaRend
import Derived.Shelf.Abstract
namespace Go.Proofs.Ytdkdfehlmphikaa
open Go.RowKit
theorem c_hostAt1 (N W S num : Int) (B : Nat) (w : World) (hc : w.cell? ⟨B, 0, none⟩ = some (.int .i64 num)) :
    Calls Try.prog 111 #[.agg #[.int .i64 N, .int .i64 W, .int .i64 S], .pointer (some ⟨B, 0, none⟩)] w fun e w' => e = .returned (.bool (N == num)) ∧ Below w.heap.size w w' := by
  have hc' := keep hc (.cells #[.int .i64 N, .int .i64 W, .int .i64 S] 97)
  go_enter Try.func111, Try.ntmps111
  go_wp2
  all_goals (go_ret; exact ⟨by simp_all, (Below.refl _ _).alloc (Nat.le_refl _) _⟩)
/-- The first place among the places from k on whose host bears the number. -/
def ixOf (hs : List H3) (num : Int) : Int := match hs.findIdx? (fun h => h.1 == num) with | some j => (j : Int) | none => -1
theorem ixOf_hit {hs : List H3} {num : Int} {k : Nat} (hk : k < hs.length) (h : (hs.getD k (0, 0, 0)).1 = num) (hb : ∀ j, j < k → (hs.getD j (0, 0, 0)).1 ≠ num) : ixOf hs num = k := by
  have e : hs.findIdx? (fun h => h.1 == num) = some k := by
    rw [List.findIdx?_eq_some_iff_getElem]
    refine ⟨hk, ?_, fun j hj => ?_⟩
    · have hg : hs.getD k (0, 0, 0) = hs[k] := by simp [List.getD_eq_getElem?_getD, hk]
      rw [hg] at h; simpa using h
    · have hj' : j < hs.length := by omega
      have hg : hs.getD j (0, 0, 0) = hs[j] := by simp [List.getD_eq_getElem?_getD, hj']
      have := hb j hj
      rw [hg] at this; simpa using this
  rw [ixOf, e]
theorem ixOf_miss {hs : List H3} {num : Int} (hb : ∀ j, j < hs.length → (hs.getD j (0, 0, 0)).1 ≠ num) : ixOf hs num = -1 := by
  have e : hs.findIdx? (fun h => h.1 == num) = none := by
    rw [List.findIdx?_eq_none_iff]
    intro x hx
    obtain ⟨j, hj, rfl⟩ := List.mem_iff_getElem.1 hx
    have hg : hs.getD j (0, 0, 0) = hs[j] := by simp [List.getD_eq_getElem?_getD, hj]
    have := hb j hj
    rw [hg] at this; simpa using this
  rw [ixOf, e]
set_option maxHeartbeats 800000 in
theorem c_IndexHost (a : Option Addr) (n cap : Nat) (hs : List H3) (num : Int) (B : Nat) (w : World) (hxs : hs.length = n) (hn : n ≤ 1048576) (h : Hosts w a hs) (hc : w.cell? ⟨B, 0, none⟩ = some (.int .i64 num)) :
    Calls Try.prog 110 #[.slice a n cap, .func (.func 111) #[] #[.pointer (some ⟨B, 0, none⟩)]] w fun e w' => e = .returned (.int .i64 (ixOf hs num)) ∧ Below w.heap.size w w' := by
  have HX := Lib.hid hxs
  have HI := Lib.hid h
  have HC := Lib.hid hc
  have hBl := World.block_lt_of_cell? w _ hc
  have HBl := Lib.hid hBl
  clear h hxs hc hBl
  have eg : ∀ args w, (callFunc 111 args).run Try.prog w = .ok (.enter 111 args) w := enters_of Try.func111 (by kernel_rfl) rfl
  go_enter Try.func110, Try.ntmps110
  go_wp2
  go_loopw [8] (fun i wr => ∃ (k : Nat), k ≤ n ∧ i = .int .i64 k ∧ Below w.heap.size w wr ∧ Hid (∀ j, j < k → (hs.getD j (0, 0, 0)).1 ≠ num)) (fun i _ => n - (intOf i).toNat)
  case atStart => exact ⟨0, Nat.zero_le _, rfl, Below.refl _ _, Lib.hid fun j hj => by omega⟩
  case round =>
    obtain ⟨k, hk, rfl, hG, HV⟩ := hrel
    have HG := Lib.hid hG
    have hz := hG.size
    clear hG
    have HCW := Lib.hid ((HG.out.cell (p := ⟨B, 0, none⟩) HBl.out).trans HC.out)
    by_cases hlt : k < n
    · obtain ⟨b, off, rfl, hb, hcc⟩ := (HI.out.below HG.out).at HX.out hlt
      obtain ⟨c0, c1, c2⟩ := hcc k hlt
      clear hcc
      have HF : Hid ((hs.getD k (0, 0, 0)).1 = (hs.getD k (0, 0, 0)).1) := Lib.hid rfl
      have HH := Lib.hid (fun hz => ixOf_hit (hs := hs) (num := num) (k := k) (by rw [HX.out]; exact hlt) hz HV.out)
      have HN := Lib.hid (fun (hz : (hs.getD k (0, 0, 0)).1 ≠ num) => (fun j (hj : j < k + 1) => if hjk : j = k then hjk ▸ hz else HV.out j (by omega) : ∀ j, j < k + 1 → (hs.getD j (0, 0, 0)).1 ≠ num))
      generalize (hs.getD k (0, 0, 0)).1 = N at *
      generalize (hs.getD k (0, 0, 0)).2.1 = W at *
      generalize (hs.getD k (0, 0, 0)).2.2 = S at *
      by_cases hq : N = num
      · have HR := Lib.hid (HH.out hq)
        have hqb : (N == num) = true := beq_iff_eq.2 hq
        have hcall := c_hostAt1 N W S num B _ HCW.out
        rw [hqb] at hcall
        clear hq hqb
        go_wp2_with (go_at_fn 111; refine hcall.mono ?_; rintro e w' ⟨rfl, hb'⟩)
        go_ret
        exact ⟨ret_int HR.out.symm, Below.step HG.out hb' hz⟩
      · have HV2 := Lib.hid (HN.out hq)
        have hqb : (N == num) = false := beq_eq_false_iff_ne.2 hq
        have hcall := c_hostAt1 N W S num B _ HCW.out
        rw [hqb] at hcall
        clear hq hqb
        go_wp2_with (go_at_fn 111; refine hcall.mono ?_; rintro e w' ⟨rfl, hb'⟩)
        go_roundw
        case rel => exact ⟨k + 1, by omega, by go_num, Below.step HG.out hb' hz, HV2⟩
        case measure => simp [intOf]; omega
    · obtain rfl : k = n := by omega
      have HR := Lib.hid (ixOf_miss (hs := hs) (num := num) (by rw [HX.out]; exact HV.out))
      go_wp2
      go_ret
      exact ⟨ret_int HR.out.symm, HG.out⟩
end Go.Proofs.Ytdkdfehlmphikaa
