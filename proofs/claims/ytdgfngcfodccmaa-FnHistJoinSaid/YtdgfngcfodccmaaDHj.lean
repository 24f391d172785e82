/- The walk of the law FnHistJoin: true for all bytes. No condition. -/
import Derived.Test.YtdgfngcfodccmaaHist
import Derived.Test.YtdgfngcfodccmaaHistK
import Derived.Test.YtdgfngcfodccmaaSame
namespace Go.Proofs.Ytdgfngcfodccmaa
open Go.RowKit
/-- Two lists of 12 or 13 numbers; nothing that was there has turned. -/
def RetHH (w : World) (e : Ending) (w' : World) : Prop :=
  ∃ (b off : Nat) (xs : List Int) (b' off' : Nat) (ys : List Int), e = .returned (.tuple #[.slice (some ⟨b, off, none⟩) xs.length xs.length, .slice (some ⟨b', off', none⟩) ys.length ys.length]) ∧ (xs.length = 12 ∨ xs.length = 13) ∧ (ys.length = 12 ∨ ys.length = 13) ∧
    Ints w' (some ⟨b, off, none⟩) xs ∧ Ints w' (some ⟨b', off', none⟩) ys ∧ Below w.heap.size w w'
theorem ints_other {w w' : World} {b off g : Nat} {xs : List Int} (h : Ints w (some ⟨b, off, none⟩) xs) (hg : w.grownBy w' (some g)) (hb : b ≠ g) : Ints w' (some ⟨b, off, none⟩) xs := by
  rcases h with h | ⟨b', off', he, hlt, hc⟩
  · exact .inl h
  · injection he with he
    injection he with h1 h2
    subst h1 h2
    exact .inr ⟨b, off, rfl, Nat.lt_of_lt_of_le hlt hg.size, fun i hi => (World.cell?_of_block (hg.block b hlt (by simpa using hb))).trans (hc i hi)⟩
set_option maxHeartbeats 1000000 in
theorem s_DrawHistJoin (a : Option Addr) (len cap : Nat) (w : World) (hcl : len ≤ cap) (hcap : cap ≤ maxLen) (h : Code w.heap.size w a len) :
    Calls Try.prog 21 #[.slice a len cap] w (RetHH w) := by
  have HC := Lib.hid h
  clear h
  go_enter Try.func21, Try.ntmps21
  go_wp2_with fail
  refine (c_open (D := w.heap.size) a len cap _ hcl hcap (by simp) HC.out).mono ?_
  rintro e w1 ⟨g, rfl, hg, hr, hb⟩
  have HR := Lib.hid hr
  have HB := Lib.hid hb
  have hz := hb.size
  clear hr hb
  go_wp2_with fail
  refine (s_l20Hist g 0 9 _ HR.out (by omega) (by omega) (by omega)).mono ?_
  rintro e w2 ⟨b, off, xs, rfl, hl, _, hI, hbl, ⟨p2, hp2, hr2⟩, hg2⟩
  have hlt := HR.out.lt
  have HG2 := Lib.hid hg2
  have HR2 := Lib.hid hr2
  have HI := Lib.hid hI
  clear hg2 hr2 hI
  go_wp2_with fail
  refine (s_l20Hist g p2 9 _ HR2.out (by omega) (by omega) (by omega)).mono ?_
  rintro e w3 ⟨b', off', ys, rfl, hl', _, hI', hbl', _, hg3⟩
  have q := HB.out.trans (gb_below (grownBy_tr HG2.out hg3) (by omega) (by omega))
  have hI3 := ints_other HI.out hg3 (by omega)
  have HI3 := Lib.hid hI3
  have HJ3 := Lib.hid hI'
  clear hg3 HR HR2 HB HG2 hI3 hI'
  go_wp2_with fail
  refine bodyPost_ret (v := .tuple #[.slice (some ⟨b, off, none⟩) xs.length xs.length, .slice (some ⟨b', off', none⟩) ys.length ys.length]) (by simp [results, Try.results21, go_sem]) rfl ?_
  exact ⟨b, off, xs, b', off', ys, rfl, hl, hl', HI3.out, HJ3.out, q⟩
theorem sums_comm (xs ys : List Int) (k : Nat) : sums ys xs k = sums xs ys k := by
  unfold sums; apply List.map_congr_left; intro j _; omega
theorem join_comm (xs ys : List Int) : joinOk ys xs = joinOk xs ys ∧ joinV ys xs = joinV xs ys := by
  have h : joinOk ys xs = joinOk xs ys := by
    unfold joinOk; rw [sums_comm, Bool.and_comm (hv ys) (hv xs)]
  exact ⟨h, by unfold joinV; rw [h, sums_comm]⟩
theorem sums_get (xs ys : List Int) (n k : Nat) (h : k < n) : (sums xs ys n).getD k 0 = xs.getD k 0 + ys.getD k 0 := by
  simp [sums, List.getD_eq_getElem?_getD, h]
set_option maxHeartbeats 2000000 in
theorem walkHistJoin (a : Option Addr) (n cap : Nat) (z : List Int) (w : World) (w0 : IsRow .u8 w a n cap z) :
    Calls Try.prog 5 #[.slice a n cap] w fun e w' => e = .returned (.bool true) ∧ Below w.heap.size w w' := by
  by_cases hbig : 1048576 < n
  · have hb' : (1048576 : Int) < (n : Int) := by omega
    go_enter Try.func5, Try.ntmps5
    go_wp2
    go_ret
    exact ⟨rfl, Below.refl _ _⟩
  have hn' : (n : Int) ≤ 1048576 := by omega
  obtain ⟨hcl, hcap⟩ := w0.caps
  have HC := Lib.hid w0.code
  clear w0 hbig
  go_enter Try.func5, Try.ntmps5
  go_wp2_with fail
  refine (s_DrawHistJoin a n cap _ hcl hcap HC.out).mono ?_
  rintro e w1 ⟨b, off, xs, b', off', ys, rfl, hl, hl', hi, hj, b1⟩
  have z1 := b1.size
  have Q1 := Lib.hid b1
  have I1 := Lib.hid hi
  have J1 := Lib.hid hj
  clear b1 hi hj
  go_wp2_with fail
  refine (c_HistJoin _ _ _ xs _ _ _ ys _ rfl (by omega) I1.out rfl (by omega) J1.out).mono ?_; rintro e w2 ⟨ax, cx, rfl, ox, gr2⟩
  have z2 := gr2.size
  have Q2 := Lib.hid (Below.step Q1.out (grown_below gr2) (by omega))
  have I2 := Lib.hid (I1.out.below (grown_below gr2))
  have J2 := Lib.hid (J1.out.below (grown_below gr2))
  have OX := Lib.hid ox
  clear gr2 ox
  go_wp2_with fail
  refine (s_HistJoin _ _ _ xs _ _ _ ys _ rfl (by omega) I2.out rfl (by omega) J2.out).mono ?_; rintro e w3 ⟨ay, cy, rfl, oy, gr3⟩
  have z3 := gr3.size
  have Q3 := Lib.hid (Below.step Q2.out (grown_below gr3) (by omega))
  have I3 := Lib.hid (I2.out.below (grown_below gr3))
  have J3 := Lib.hid (J2.out.below (grown_below gr3))
  have X3 := Lib.hid ((own_ints OX.out).1.below (grown_below gr3))
  have Y3 := Lib.hid (own_ints oy).1
  clear gr3 oy OX
  have hlen : (joinV xs ys).length ≤ 13 := by
    unfold joinV
    split
    · rw [sums_len]; exact Nat.le_refl _
    · simp
  go_wp2_with fail
  refine (c_sameInts _ _ _ _ _ (joinV xs ys) _ rfl (by omega) X3.out Y3.out).mono ?_; rintro e w4 ⟨rfl, b4⟩
  have z4 := b4.size
  have Q4 := Lib.hid (Below.step Q3.out b4 (by omega))
  have I4 := Lib.hid (I3.out.below b4)
  have J4 := Lib.hid (J3.out.below b4)
  have X4 := Lib.hid (X3.out.below b4)
  clear b4 X3 Y3
  obtain ⟨k1, k2⟩ := join_comm xs ys
  have HK := Lib.hid (And.intro k1 k2)
  clear k1 k2
  cases hok : joinOk xs ys
  · have hV : joinV xs ys = [] := by simp [joinV, hok]
    rw [hV]
    go_wp2_with fail
    refine (c_alive _).mono ?_; rintro e w6 ⟨rfl, b6⟩
    have Q6 := Below.step Q4.out b6 (by omega)
    go_wp2_with fail
    go_ret
    exact ⟨rfl, Q6⟩
  · have hV : joinV xs ys = sums xs ys 13 := by simp [joinV, hok]
    have hv1 : hv xs = true := by simp only [joinOk, Bool.and_eq_true] at hok; exact hok.1.1
    have hv2 : hv ys = true := by simp only [joinOk, Bool.and_eq_true] at hok; exact hok.1.2
    have hx := hv_len hv1
    have hy := hv_len hv2
    have HX := Lib.hid (fun k (hk : k < xs.length) => hv_get hv1 hk)
    have HY := Lib.hid (fun k (hk : k < ys.length) => hv_get hv2 hk)
    rw [hV, sums_len, hx, hy]
    go_wp2_with fail
    refine (c_HistJoin _ 13 13 ys _ 13 13 xs _ hy (by omega) J4.out hx (by omega) I4.out).mono ?_; rintro e w5 ⟨az, cz, rfl, oz, gr5⟩
    rw [HK.out.1, HK.out.2] at *
    have z5 := gr5.size
    have Q5 := Lib.hid (Below.step Q4.out (grown_below gr5) (by omega))
    have I5 := Lib.hid (I4.out.below (grown_below gr5))
    have J5 := Lib.hid (J4.out.below (grown_below gr5))
    have X5 := Lib.hid (X4.out.below (grown_below gr5))
    have Z5 := Lib.hid (own_ints oz).1
    clear gr5 oz
    rw [hok, hV, sums_len]
    have X6 := Lib.hid (show Ints w5 ax (sums xs ys 13) from by rw [← hV]; exact X5.out)
    have Z6 := Lib.hid (show Ints w5 az (sums xs ys 13) from by rw [← hV]; exact Z5.out)
    clear X5 Z5 X4 I4 J4 I3 J3 I2 J2
    have hsl := sums_len xs ys 13
    rcases X6.out with h0 | ⟨bx, offx, hax, _, _⟩
    · rw [h0] at hsl; simp at hsl
    rcases I5.out with h0 | ⟨bi, offi, hbi, _, _⟩
    · rw [h0] at hx; simp at hx
    rcases J5.out with h0 | ⟨bj, offj, hbj, _, _⟩
    · rw [h0] at hy; simp at hy
    injection hbi with hbi
    injection hbi with hb1 hb2
    injection hbj with hbj
    injection hbj with hb3 hb4
    subst hax hb1 hb2 hb3 hb4
    go_wp2
    go_loopw [11] (fun i wr => ∃ k : Nat, k ≤ 13 ∧ i = .int .i64 k ∧ Below w5.heap.size w5 wr) (fun i _ => 13 - (intOf i).toNat)
    case atStart => exact ⟨0, Nat.zero_le _, rfl, Below.refl _ _⟩
    case round =>
      obtain ⟨k, hk, rfl, hG⟩ := hrel
      have HG := Lib.hid hG
      have hzG := hG.size
      clear hG
      by_cases hlt : k < 13
      · have c1 : wr.cell? ⟨bx, offx + k, none⟩ = some (.int .i64 (xs.getD k 0 + ys.getD k 0)) := by
          rcases X6.out.below HG.out with h0 | ⟨_, _, he, _, hc⟩
          · rw [h0] at hsl; simp at hsl
          · injection he with he; injection he with e1 e2; subst e1 e2
            have := hc k (by omega)
            rwa [sums_get xs ys 13 k hlt] at this
        have c2 : wr.cell? ⟨b, off + k, none⟩ = some (.int .i64 (xs.getD k 0)) := by
          rcases I5.out.below HG.out with h0 | ⟨_, _, he, _, hc⟩
          · rw [h0] at hx; simp at hx
          · injection he with he; injection he with e1 e2; subst e1 e2; exact hc k (by omega)
        have c3 : wr.cell? ⟨b', off' + k, none⟩ = some (.int .i64 (ys.getD k 0)) := by
          rcases J5.out.below HG.out with h0 | ⟨_, _, he, _, hc⟩
          · rw [h0] at hy; simp at hy
          · injection he with he; injection he with e1 e2; subst e1 e2; exact hc k (by omega)
        obtain ⟨x1, x2⟩ := HX.out k (by omega)
        obtain ⟨y1, y2⟩ := HY.out k (by omega)
        generalize xs.getD k 0 = x at *
        generalize ys.getD k 0 = y at *
        have hw1 : IntKind.i64.wrap (x + y) = x + y := IntWalk.i64_in _ (by omega)
        go_wp2
        go_quiet (fail)
        go_wp2
        go_roundw
        case rel => exact ⟨k + 1, by omega, by go_num, below_drewN HG.out _⟩
        case measure => simp [intOf]; omega
      · have XG := Lib.hid (X6.out.below HG.out)
        have ZG := Lib.hid (Z6.out.below HG.out)
        go_wp2_with fail
        refine (c_sameInts _ _ _ _ _ (sums xs ys 13) _ (sums_len _ _ _) (by omega) ZG.out XG.out).mono ?_; rintro e w6 ⟨rfl, b6⟩
        have Q6 := Below.step (Below.step Q5.out HG.out (by omega)) b6 (by omega)
        go_wp2_with fail
        go_ret
        exact ⟨rfl, Q6⟩
end Go.Proofs.Ytdgfngcfodccmaa
