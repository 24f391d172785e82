/- The walk of the exact law of HistOf: true for all arguments. No condition. -/
import Derived.Test.YtpbffimlekgejaaHistD
namespace Go.Proofs.Ytpbffimlekgejaa
open Go.RowKit
set_option maxHeartbeats 1000000 in
theorem walkExactHistOf (a : Option Addr) (n cap : Nat) (z : List Int) (w : World) (w0 : IsRow .i64 w a n cap z) :
    Calls Try.prog 10 #[.slice a n cap] w fun e w' => e = .returned (.bool true) ∧ Below w.heap.size w w' := by
  by_cases hbig : 1048576 < n
  · have hb' : (1048576 : Int) < (n : Int) := by omega
    go_enter Try.func10, Try.ntmps10
    go_wp2
    go_ret
    exact ⟨rfl, Below.refl _ _⟩
  have hn : n ≤ 1048576 := by omega
  have hn' : (n : Int) ≤ 1048576 := by omega
  obtain ⟨hI, hL⟩ := w0.ints
  have hwf : ∀ j, j < (z.take n).length → (z.take n).getD j 0 ≤ 9223372036854775807 := by
    intro j hj
    rcases w0 with ⟨rfl, rfl, rfl, rfl⟩ | ⟨x, _, _, _, _, _, hw⟩
    · simp at hj
    · have hm : (z.take n).getD j 0 ∈ z := by
        rw [List.getD_eq_getElem?_getD, List.getElem?_eq_getElem hj]
        exact List.mem_of_mem_take (List.getElem_mem _)
      have := hw _ hm
      simp [Lit.wf, IntKind.min, IntKind.max, IntKind.signed, IntKind.bits] at this
      have h2 := this.2
      simpa [List.getD_eq_getElem?_getD] using h2
  generalize z.take n = xs at hI hL hwf
  clear w0 hbig
  have HI := Lib.hid hI
  have HL := Lib.hid hL
  have HW := Lib.hid hwf
  have hlen : (histV xs).length ≤ 13 := by
    unfold histV
    split
    · rw [cntOf_len]; exact Nat.le_refl _
    · simp
  clear hI hL hwf
  go_enter Try.func10, Try.ntmps10
  go_wp2_with fail
  refine (c_toIntS _ _ _ xs _ HL.out hn HI.out).mono ?_; rintro e w1 ⟨g1, rfl, o1, gr1⟩
  have b1 := grown_below gr1
  have I1 := Lib.hid (ownsRow.ints o1)
  have z1 := b1.size
  have D1 := Lib.hid b1
  clear o1 gr1 b1
  go_wp2_with fail
  refine (s_HistOf _ _ _ xs _ HL.out hn I1.out HW.out).mono ?_; rintro e w2 ⟨ay, cy, rfl, oy, gr2⟩
  have z2 := gr2.size
  have D2 := Lib.hid (Below.step D1.out (grown_below gr2) z1)
  have OY := Lib.hid oy
  have YB := Lib.hid (fun k hk => (oy.lt k hk).2)
  clear gr2 oy
  have J2 := Lib.hid (HI.out.below D2.out)
  go_wp2_with fail
  refine (c_toIntS _ _ _ xs _ HL.out hn J2.out).mono ?_; rintro e w3 ⟨g3, rfl, o3, gr3⟩
  have z3 := gr3.size
  have D3 := Lib.hid (Below.step D2.out (grown_below gr3) (by omega))
  obtain ⟨l3, l3'⟩ := o3.lt g3 rfl
  have O3 := Lib.hid o3
  have OY3 := Lib.hid (own_kept OY.out gr3 (fun k _ => by simp))
  clear gr3 o3
  go_wp2_with fail
  refine (c_HistOf _ _ _ xs _ HL.out hn (ownsRow.ints O3.out) HW.out).mono ?_; rintro e w4 ⟨ax, cx, rfl, ox, gr4⟩
  have z4 := gr4.size
  have D4 := Lib.hid (Below.step D3.out (grown_below gr4) (by omega))
  have XB := Lib.hid (fun k hk => ox.lt k hk)
  have OX := Lib.hid ox
  have O4 := Lib.hid (own_kept O3.out gr4 (fun k _ => by simp))
  have OY4 := Lib.hid (own_kept OY3.out gr4 (fun k _ => by simp))
  clear gr4 ox
  go_wp2_with fail
  refine (c_eqIntS _ _ _ _ _ (histV xs) _ rfl (by omega) (own_ints OX.out).1 (own_ints OY4.out).1).mono ?_; rintro e w5 ⟨rfl, b5⟩
  have z5 := b5.size
  have D5 := Lib.hid (Below.step D4.out b5 (by omega))
  have OX5 := Lib.hid (own_kept OX.out (below_grown b5) (fun k _ => by simp))
  have O5 := Lib.hid (own_kept O4.out (below_grown b5) (fun k _ => by simp))
  have OY5 := Lib.hid (own_kept OY4.out (below_grown b5) (fun k _ => by simp))
  have J5 := Lib.hid (HI.out.below D5.out)
  clear b5
  go_wp2_with fail
  refine (c_toIntS _ _ _ xs _ HL.out hn J5.out).mono ?_; rintro e w6 ⟨g6, rfl, o6, gr6⟩
  have z6 := gr6.size
  have D6 := Lib.hid (Below.step D5.out (grown_below gr6) (by omega))
  have O6 := Lib.hid o6
  have OX6 := Lib.hid (own_kept OX5.out gr6 (fun k _ => by simp))
  have OZ6 := Lib.hid (own_kept O5.out gr6 (fun k _ => by simp))
  have OY6 := Lib.hid (own_kept OY5.out gr6 (fun k _ => by simp))
  clear gr6 o6
  go_wp2_with fail
  refine (c_eqIntS _ _ _ _ _ xs _ HL.out hn (ownsRow.ints OZ6.out) (ownsRow.ints O6.out)).mono ?_; rintro e w7 ⟨rfl, b7⟩
  have z7 := b7.size
  have D7 := Lib.hid (Below.step D6.out b7 (by omega))
  have OX7 := Lib.hid (own_kept OX6.out (below_grown b7) (fun k _ => by simp))
  have OZ7 := Lib.hid (own_kept OZ6.out (below_grown b7) (fun k _ => by simp))
  have OY7 := Lib.hid (own_kept OY6.out (below_grown b7) (fun k _ => by simp))
  clear b7
  go_wp2_with fail
  refine (c_markIntS _ g3 n n 1 xs _ hn (by omega) (by omega) OZ7.out).mono ?_; rintro e w8 ⟨rfl, o8, gr8⟩
  have z8 := gr8.size
  have D8 := Lib.hid (D7.out.grown gr8 (by omega) (fun k hk => by have : g3 = k := by simpa using hk
                                                                  omega))
  have OX8 := Lib.hid (own_kept OX7.out gr8 (fun k hk => by have := (XB.out k hk).1; simp; omega))
  have OY8 := Lib.hid (own_kept OY7.out gr8 (fun k hk => by have := YB.out k hk; simp; omega))
  clear gr8 o8
  have hn1 : ¬ (1 + (n : Int) < 0) := by omega
  go_wp2_with fail
  refine (c_eqIntS _ _ _ _ _ (histV xs) _ rfl (by omega) (own_ints OX8.out).1 (own_ints OY8.out).1).mono ?_; rintro e w9 ⟨rfl, b9⟩
  have z9 := b9.size
  have D9 := Lib.hid (Below.step D8.out b9 (by omega))
  have OX9 := Lib.hid (own_kept OX8.out (below_grown b9) (fun k _ => by simp))
  have OY9 := Lib.hid (own_kept OY8.out (below_grown b9) (fun k _ => by simp))
  clear b9
  go_wp2_with fail
  refine (c_markV _ (histV xs).length ax cx 1 (histV xs) _ (by omega) (by omega) (by omega) OX9.out).mono ?_; rintro e w10 ⟨rfl, o10, gr10⟩
  have z10 := gr10.size
  have D10 := Lib.hid (D9.out.grown gr10 (by omega) (fun k hk => by have := (XB.out k hk).1; omega))
  have OX10 := Lib.hid o10
  have OY10 := Lib.hid (own_kept OY9.out gr10 (fun k hk h => by have := YB.out k hk; have := (XB.out k h).1; omega))
  clear gr10 o10
  go_wp2_with fail
  refine (c_heldIntS ax (histV xs).length cx 1 _ (by omega) (by omega) (by omega) (own_ints OX10.out).1).mono ?_; rintro e w' ⟨rfl, rfl⟩
  have hl1 : ¬ (1 + ((histV xs).length : Int) < 0) := by omega
  have J10 := Lib.hid (HI.out.below D10.out)
  go_wp2_with fail
  refine (c_toIntS _ _ _ xs _ HL.out hn J10.out).mono ?_; rintro e w11 ⟨g11, rfl, o11, gr11⟩
  have z11 := gr11.size
  have D11 := Lib.hid (Below.step D10.out (grown_below gr11) (by omega))
  have I11 := Lib.hid (ownsRow.ints o11)
  have OX11 := Lib.hid (own_kept OX10.out gr11 (fun k _ => by simp))
  have OY11 := Lib.hid (own_kept OY10.out gr11 (fun k _ => by simp))
  clear gr11 o11
  go_wp2_with fail
  refine (c_HistOf _ _ _ xs _ HL.out hn I11.out HW.out).mono ?_; rintro e w12 ⟨a9, c9, rfl, o9, gr12⟩
  have z12 := gr12.size
  have D12 := Lib.hid (Below.step D11.out (grown_below gr12) (by omega))
  have ON := Lib.hid o9
  have OX12 := Lib.hid (own_kept OX11.out gr12 (fun k _ => by simp))
  have OY12 := Lib.hid (own_kept OY11.out gr12 (fun k _ => by simp))
  clear gr12 o9
  go_wp2_with fail
  refine (c_eqIntS _ _ _ _ _ (histV xs) _ rfl (by omega) (own_ints ON.out).1 (own_ints OY12.out).1).mono ?_; rintro e w13 ⟨rfl, b13⟩
  have z13 := b13.size
  have D13 := Lib.hid (Below.step D12.out b13 (by omega))
  have OX13 := Lib.hid (own_kept OX12.out (below_grown b13) (fun k _ => by simp))
  clear b13
  go_wp2_with fail
  refine (c_heldIntS ax (histV xs).length cx 1 _ (by omega) (by omega) (by omega) (own_ints OX13.out).1).mono ?_; rintro e w' ⟨rfl, rfl⟩
  go_wp2_with fail
  go_ret
  exact ⟨rfl, D13.out⟩
end Go.Proofs.Ytpbffimlekgejaa
