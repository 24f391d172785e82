/- The walk of the law FnBreakerRun: true for all bytes. No condition. -/
import Derived.Test.YtdpmlkigmadajaaDBrkG
namespace Go.Proofs.Ytdpmlkigmadajaa
open Go.RowKit
set_option maxHeartbeats 2000000 in
theorem walkBreakerRun (a : Option Addr) (n cap : Nat) (z : List Int) (w : World) (w0 : IsRow .u8 w a n cap z) :
    Calls Try.prog 6 #[.slice a n cap] w fun e w' => e = .returned (.bool true) ∧ Below w.heap.size w w' := by
  by_cases hbig : 1048576 < n
  · have hb' : (1048576 : Int) < (n : Int) := by omega
    go_enter Try.func6, Try.ntmps6
    go_wp2
    go_ret
    exact ⟨rfl, Below.refl _ _⟩
  have hn' : (n : Int) ≤ 1048576 := by omega
  obtain ⟨hcl, hcap⟩ := w0.caps
  have HC := Lib.hid w0.code
  clear w0 hbig
  go_enter Try.func6, Try.ntmps6
  go_wp2_with fail
  refine (s_DrawBreakerRun a n cap _ hcl hcap HC.out).mono ?_
  rintro e w1 ⟨b, c, xs, most, pause, rfl, hl, hx, m1, m2, u1, u2, ho, b1⟩
  have z1 := b1.size
  have D1 := Lib.hid b1
  have O1 := Lib.hid ho
  clear b1 ho hx
  have hlen := runB_len xs most pause
  have HRG := Lib.hid (fun k h => runB_get (xs := xs) (most := most) (pause := pause) (k := k) h)
  go_wp2_with fail
  refine (c_BreakerRun _ _ _ xs most pause _ rfl (by omega) (ownsRow.ints O1.out)).mono ?_; rintro e w2 ⟨ax, cx, rfl, ox, g2⟩
  have z2 := g2.size
  have D2 := Lib.hid (Below.step D1.out (grown_below g2) z1)
  have O2 := Lib.hid (row_kept O1.out g2 (fun k _ => by simp))
  have X2 := Lib.hid ox
  clear g2 ox
  go_wp2_with fail
  refine (s_BreakerRun _ _ _ xs most pause _ rfl (by omega) (ownsRow.ints O2.out)).mono ?_; rintro e w3 ⟨ay, cy, rfl, oy, g3⟩
  have z3 := g3.size
  have D3 := Lib.hid (Below.step D2.out (grown_below g3) (by omega))
  have O3 := Lib.hid (row_kept O2.out g3 (fun k _ => by simp))
  have X3 := Lib.hid (row_vals (row_kept X2.out g3 (fun k _ => by simp)))
  have Y3 := Lib.hid (row_vals oy)
  clear g3 oy X2 O1 O2
  have HI := Lib.hid (ownsRow.ints O3.out)
  generalize hR : runB xs most pause = R at *
  clear hR
  go_wp2
  go_loopw [8, 9, 10] (fun m t i wr => ∃ (k : Nat) (many last : Int), k ≤ R.length ∧ i = .int .i64 k ∧ m = .int .i64 many ∧ t = .int .i64 last ∧ 0 ≤ many ∧ many ≤ k ∧ 0 ≤ last ∧ last ≤ 100000 ∧ Hid (BInv (bst xs most pause k).1 (bst xs most pause k).2 most pause many last ∨ R.length = 0) ∧ Below w3.heap.size w3 wr) (fun _ _ i _ => R.length - (intOf i).toNat)
  case atStart =>
    refine ⟨0, 0, 0, Nat.zero_le _, rfl, rfl, rfl, by omega, by simp, by omega, by omega, Lib.hid ?_, Below.refl _ _⟩
    by_cases h0 : R.length = 0
    · exact .inr h0
    · have h1 := HRG.out 0 (by omega)
      have := inB_true.1 h1.2.2.2.2.1
      exact .inl ⟨by omega, rfl, by omega, by omega, fun _ => rfl, fun h => by omega⟩
  case round =>
    obtain ⟨k, many, last, hk, rfl, rfl, rfl, y0, y1, t0, t1, HB, hG⟩ := hrel
    have HG := Lib.hid hG
    clear hG
    by_cases hlt : k < R.length
    · obtain ⟨_, hkx, hget, hxv, hmv, hpv⟩ := HRG.out k hlt
      have hinv : BInv (bst xs most pause k).1 (bst xs most pause k).2 most pause many last := HB.out.resolve_right (by omega)
      obtain ⟨hs1, hs2⟩ := binv_step hmv hpv hxv hinv
      obtain ⟨bx, ox, rfl, _, hcx⟩ := (X3.out.below HG.out).bool rfl hlt
      obtain ⟨by', oy, rfl, _, hcy⟩ := (Y3.out.below HG.out).bool rfl hlt
      rcases HI.out with h0 | ⟨b', off, ha, hb, hcell⟩
      · rw [h0] at hkx; simp at hkx
      injection ha with ha
      injection ha with ha1 ha2
      subst ha1 ha2
      have hc1 := (HG.out.cell (p := ⟨b, 0 + k, none⟩) hb).trans (hcell k hkx)
      rw [Nat.zero_add] at hc1
      have hbs : bst xs most pause (k + 1) = (stepF (bst xs most pause k).1 (bst xs most pause k).2 (xs.getD k 0) false most pause, stepU (bst xs most pause k).1 (bst xs most pause k).2 (xs.getD k 0) false most pause) := rfl
      have hxb := inB_true.1 hxv
      obtain ⟨hx1, hx2⟩ := hxb
      have hkx' : (k : Int) < (xs.length : Int) := by omega
      clear hcell
      rw [hget] at hcx hcy
      have HBS := Lib.hid hbs
      generalize xs.getD k 0 = x at *
      cases hA : allowsB (bst xs most pause k).1 (bst xs most pause k).2 x
      · obtain ⟨e1, e2, hmm⟩ := hs1 hA
        have HN : Hid (BInv (bst xs most pause (k + 1)).1 (bst xs most pause (k + 1)).2 most pause many last ∨ R.length = 0) := Lib.hid (.inl (by rw [HBS.out, e1, e2]; exact hinv))
        rw [hA] at hcx hcy
        clear hs1 hs2 hinv hA hget hbs HBS e1 e2 hxv hmv hpv
        go_wp2
        go_quiet (fail)
        go_wp2
        go_roundw
        case rel => exact ⟨k + 1, many, last, by omega, by go_num, rfl, rfl, by omega, by omega, by omega, by omega, HN, below_drewN HG.out _⟩
        case measure => simp [intOf]; omega
      · obtain ⟨e1, e2⟩ := hs2 hA
        have HN : Hid (BInv (bst xs most pause (k + 1)).1 (bst xs most pause (k + 1)).2 most pause (many + 1) x ∨ R.length = 0) := Lib.hid (.inl (by rw [HBS.out]; exact e1))
        rw [hA] at hcx hcy
        clear hs1 hs2 hinv hA hget hbs HBS e1 hxv hmv hpv
        by_cases hmm : most ≤ many
        · have e3 := e2 hmm
          clear e2
          go_wp2
          go_quiet (fail)
          go_wp2
          go_roundw
          case rel => exact ⟨k + 1, many + 1, x, by omega, by go_num, by go_num, rfl, by omega, by omega, by omega, by omega, HN, below_drewN HG.out _⟩
          case measure => simp [intOf]; omega
        · have e3 : many < most := by omega
          clear e2
          go_wp2
          go_quiet (fail)
          go_wp2
          go_roundw
          case rel => exact ⟨k + 1, many + 1, x, by omega, by go_num, by go_num, rfl, by omega, by omega, by omega, by omega, HN, below_drewN HG.out _⟩
          case measure => simp [intOf]; omega
    · have hkr : k = R.length := by omega
      subst hkr
      go_wp2_with fail
      refine (c_alive _).mono ?_; rintro e w6 ⟨rfl, b6⟩
      have Q6 := Below.step (Below.step D3.out HG.out (by omega)) b6 (by have := HG.out.size; omega)
      go_wp2_with fail
      go_ret
      exact ⟨rfl, Q6⟩
end Go.Proofs.Ytdpmlkigmadajaa
