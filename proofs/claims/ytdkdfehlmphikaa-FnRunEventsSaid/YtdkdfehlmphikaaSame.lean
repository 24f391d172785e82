/- Contract of sameInts: two lists of the same numbers. No condition. -/
import Derived.Test.YtdkdfehlmphikaaMA
namespace Go.Proofs.Ytdkdfehlmphikaa
open Go.RowKit
theorem c_sameInts (a b : Option Addr) (n ca cb : Nat) (xs : List Int) (w : World) (hxs : xs.length = n) (hn : n ≤ 1048576) (ha : Ints w a xs) (hb : Ints w b xs) :
    Calls Try.prog 17 #[.slice a n ca, .slice b n cb] w fun e w' => e = .returned (.bool true) ∧ Below w.heap.size w w' := by
  have HX := Lib.hid hxs
  have HA := Lib.hid ha
  have HB := Lib.hid hb
  clear hxs ha hb
  go_enter Try.func17, Try.ntmps17
  go_wp2
  go_loopw [5] (fun i wr => ∃ (k : Nat), k ≤ n ∧ i = .int .i64 k ∧ Below w.heap.size w wr) (fun i _ => n - (intOf i).toNat)
  case atStart => exact ⟨0, Nat.zero_le _, rfl, Below.refl _ _⟩
  case round =>
    obtain ⟨k, hk, rfl, hG⟩ := hrel
    have HG := Lib.hid hG
    clear hG
    by_cases hlt : k < n
    · rcases HA.out.below HG.out with h0 | ⟨b1, off1, ha, _, hcell1⟩
      · have := HX.out; rw [h0] at this; simp at this; omega
      · rcases HB.out.below HG.out with h0 | ⟨b2, off2, hb, _, hcell2⟩
        · have := HX.out; rw [h0] at this; simp at this; omega
        · have hc1 := hcell1 k (by have := HX.out; omega)
          have hc2 := hcell2 k (by have := HX.out; omega)
          subst ha hb
          clear hcell1 hcell2
          go_wp2
          go_quiet (fail)
          go_wp2
          go_roundw
          case rel => exact ⟨k + 1, by omega, by go_num, below_drewN HG.out _⟩
          case measure => simp [intOf]; omega
    · go_wp2
      go_ret
      exact ⟨rfl, HG.out⟩
end Go.Proofs.Ytdkdfehlmphikaa
