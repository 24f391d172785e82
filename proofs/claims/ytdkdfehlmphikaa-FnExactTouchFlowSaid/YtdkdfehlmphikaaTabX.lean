/- Looking through a table's entries: slices.IndexFunc at entries, with whatever test; find. No condition but lists of at most 2^20 entries. -/
import Derived.Test.YtdkdfehlmphikaaTabP
import Derived.Shelf.Abstract
namespace Go.Proofs.Ytdkdfehlmphikaa
open Go.RowKit
/-- The first entry that fits a test, or -1. -/
def ixP (p : E7 → Bool) (es : List E7) : Int := match es.findIdx? p with | some k => (k : Int) | none => -1
theorem ixP_hit {p : E7 → Bool} {es : List E7} {k : Nat} (hk : k < es.length) (h : p (es.getD k e0) = true) (hn : ∀ j, j < k → p (es.getD j e0) = false) : ixP p es = (k : Int) := by
  have : es.findIdx? p = some k := by
    rw [List.findIdx?_eq_some_iff_getElem]
    refine ⟨hk, ?_, fun j hj => ?_⟩
    · rwa [List.getD_eq_getElem?_getD, List.getElem?_eq_getElem hk] at h
    · have := hn j hj
      rw [List.getD_eq_getElem?_getD, List.getElem?_eq_getElem (by omega)] at this
      simpa using this
  rw [ixP, this]
theorem ixP_none {p : E7 → Bool} {es : List E7} (hn : ∀ j, j < es.length → p (es.getD j e0) = false) : ixP p es = -1 := by
  have : es.findIdx? p = none := by
    rw [List.findIdx?_eq_none_iff]
    intro x hx
    obtain ⟨j, hj, rfl⟩ := List.getElem_of_mem hx
    have := hn j hj
    rwa [List.getD_eq_getElem?_getD, List.getElem?_eq_getElem hj] at this
  rw [ixP, this]
theorem grown_any {w w' : World} {r : Option Nat} (h : w.grownBy w' none) : w.grownBy w' r := ⟨h.os, h.tape, h.output, h.size, fun k hk _ => h.block k hk (by simp)⟩
theorem getD_mem7 {es : List E7} {k : Nat} (h : k < es.length) : es.getD k e0 ∈ es := by
  rw [List.getD_eq_getElem?_getD, List.getElem?_eq_getElem h]; exact List.getElem_mem h
/-- What a test over entries is asked: the same answer in every world that came of w by making memory and by turning the block r. -/
def Tests (F : Nat) (cl : Array Value) (p : E7 → Bool) (es : List E7) (w : World) (r : Option Nat) : Prop :=
  ∀ (e : E7) (w' : World), e ∈ es → w.grownBy w' r → Calls Try.prog F (#[.agg #[.int .i64 e.1.1, .int .i64 e.1.2.1, .int .i64 e.1.2.2.1, .int .i64 e.1.2.2.2.1, .int .i64 e.1.2.2.2.2, .int .i64 e.2.1, .int .i64 e.2.2]] ++ cl) w' fun u w'' => u = .returned (.bool (p e)) ∧ Below w'.heap.size w' w''
set_option maxHeartbeats 2000000 in
theorem c_IndexE (F : Nat) (cl : Array Value) (p : E7 → Bool) (r : Option Nat) (a : Option Addr) (n cap : Nat) (es : List E7) (w : World) (hxs : es.length = n) (hn : n ≤ 1048576) (h : Ents w a es) (ht : Tests F cl p es w r)
    (eg : ∀ args w, (callFunc F args).run Try.prog w = .ok (.enter F args) w) :
    Calls Try.prog 102 #[.slice a n cap, .func (.func F) #[] cl] w fun e w' => e = .returned (.int .i64 (ixP p es)) ∧ Below w.heap.size w w' := by
  have HX := Lib.hid hxs
  have HI := Lib.hid h
  have HT := Lib.hid ht
  clear h hxs ht
  go_enter Try.func102, Try.ntmps102
  go_wp2
  go_loopw [8] (fun i wr => ∃ (k : Nat), k ≤ n ∧ i = .int .i64 k ∧ Below w.heap.size w wr ∧ Hid (∀ j, j < k → p (es.getD j e0) = false)) (fun i _ => n - (intOf i).toNat)
  case atStart => exact ⟨0, Nat.zero_le _, rfl, Below.refl _ _, Lib.hid fun j hj => by omega⟩
  case round =>
    obtain ⟨k, hk, rfl, hG, HV⟩ := hrel
    have HG := Lib.hid hG
    have hz := hG.size
    clear hG
    by_cases hlt : k < n
    · obtain ⟨b, off, rfl, hb, hc⟩ := (HI.out.below HG.out).at HX.out hlt
      obtain ⟨c0, c1, c2, c3, c4, c5, c6⟩ := hc k hlt
      clear hc
      have hcall := HT.out (es.getD k e0) wr (getD_mem7 (by rw [HX.out]; exact hlt)) (grown_any (below_grown HG.out))
      have HH := Lib.hid (fun hz => ixP_hit (es := es) (p := p) (k := k) (by rw [HX.out]; exact hlt) hz HV.out)
      have HN := Lib.hid (fun (hz : p (es.getD k e0) = false) => (fun j (hj : j < k + 1) => if hjk : j = k then hjk ▸ hz else HV.out j (by omega) : ∀ j, j < k + 1 → p (es.getD j e0) = false))
      generalize es.getD k e0 = E at *
      obtain ⟨⟨x0, x1, x2, x3, x4⟩, x5, x6⟩ := E
      dsimp only at c0 c1 c2 c3 c4 c5 c6 hcall
      cases hq : p ((x0, x1, x2, x3, x4), x5, x6)
      · have HV2 := Lib.hid (HN.out hq)
        rw [hq] at hcall
        clear hq HN HH
        go_wp2_with (go_at_fn F; refine hcall.mono ?_; rintro e w' ⟨rfl, hb'⟩)
        go_roundw
        case rel => exact ⟨k + 1, by omega, by go_num, Below.step HG.out hb' hz, HV2⟩
        case measure => simp [intOf]; omega
      · have HR := Lib.hid (HH.out hq)
        rw [hq] at hcall
        clear hq HN HH
        go_wp2_with (go_at_fn F; refine hcall.mono ?_; rintro e w' ⟨rfl, hb'⟩)
        go_ret
        exact ⟨ret_int HR.out.symm, Below.step HG.out hb' hz⟩
    · obtain rfl : k = n := by omega
      have HR := Lib.hid (ixP_none (es := es) (p := p) (by rw [HX.out]; exact HV.out))
      go_wp2
      go_ret
      exact ⟨ret_int HR.out.symm, HG.out⟩
end Go.Proofs.Ytdkdfehlmphikaa
