/- The walk of the law FnHistOf: true for all bytes. No condition. -/
import Derived.Test.YtdgfngcfodccmaaDHo
import Derived.Test.YtdgfngcfodccmaaHistD
import Derived.Test.YtdgfngcfodccmaaHistK
import Derived.Test.YtdgfngcfodccmaaHistP
import Derived.Test.YtdgfngcfodccmaaSame
namespace Go.Proofs.Ytdgfngcfodccmaa
open Go.RowKit
theorem ints_take {w : World} {b off : Nat} {xs : List Int} (h : Nat) (hI : Ints w (some ⟨b, off, none⟩) xs) : Ints w (some ⟨b, off, none⟩) (xs.take h) := by
  rcases hI with h0 | ⟨b', o', he, hlt, hc⟩
  · exact .inl (by rw [h0]; simp)
  · injection he with he
    injection he with h1 h2
    subst h1 h2
    refine .inr ⟨b, off, rfl, hlt, fun i hi => ?_⟩
    rw [List.length_take] at hi
    rw [hc i (by omega), List.getD_eq_getElem?_getD, List.getD_eq_getElem?_getD, List.getElem?_take, if_pos (by omega)]
theorem ints_drop {w : World} {b off : Nat} {xs : List Int} (h : Nat) (hI : Ints w (some ⟨b, off, none⟩) xs) : Ints w (some ⟨b, off + h, none⟩) (xs.drop h) := by
  rcases hI with h0 | ⟨b', o', he, hlt, hc⟩
  · exact .inl (by rw [h0]; simp)
  · injection he with he
    injection he with h1 h2
    subst h1 h2
    refine .inr ⟨b, off + h, rfl, hlt, fun i hi => ?_⟩
    rw [List.length_drop] at hi
    rw [Nat.add_assoc, hc (h + i) (by omega), List.getD_eq_getElem?_getD, List.getD_eq_getElem?_getD, List.getElem?_drop]
theorem wf_take {xs : List Int} {m : Int} (h : Nat) (H : ∀ j, j < xs.length → xs.getD j 0 ≤ m) : ∀ j, j < (xs.take h).length → (xs.take h).getD j 0 ≤ m := by
  intro j hj
  rw [List.length_take] at hj
  have := H j (by omega)
  rwa [List.getD_eq_getElem?_getD, List.getElem?_take, if_pos (by omega), ← List.getD_eq_getElem?_getD]
theorem wf_drop {xs : List Int} {m : Int} (h : Nat) (H : ∀ j, j < xs.length → xs.getD j 0 ≤ m) : ∀ j, j < (xs.drop h).length → (xs.drop h).getD j 0 ≤ m := by
  intro j hj
  rw [List.length_drop] at hj
  have := H (h + j) (by omega)
  rwa [List.getD_eq_getElem?_getD, List.getElem?_drop, ← List.getD_eq_getElem?_getD]
/-- A new list of 13 counts. -/
def Ret13 (w : World) (xs : List Int) (e : Ending) (w' : World) : Prop :=
  ∃ (a : Option Addr) (cap : Nat), e = .returned (.slice a 13 cap) ∧ w'.ownsRow w.heap.size 3 1 (.slice a 13 cap) 13 (xs.map (Value.int .i64)) ∧ w.grownBy w' none
def RetJ13 (w : World) (xs : List Int) (e : Ending) (w' : World) : Prop :=
  ∃ (a : Option Addr) (cap : Nat), e = .returned (.tuple #[.slice a 13 cap, .bool true]) ∧ w'.ownsRow w.heap.size 3 1 (.slice a 13 cap) 13 (xs.map (Value.int .i64)) ∧ w.grownBy w' none
theorem of13 (a : Option Addr) (n cap : Nat) (xs : List Int) (w : World) (hxs : xs.length = n) (hn : n ≤ 1048576) (h : Ints w a xs) (hwf : ∀ j, j < xs.length → (xs.getD j 0) ≤ 9223372036854775807) (hok : okTimes xs = true) :
    Calls Try.prog 24 #[.slice a n cap] w (Ret13 w (histV xs)) := by
  refine (c_HistOf a n cap xs w hxs hn h hwf).mono ?_
  rintro e w' ⟨ax, cx, rfl, o, g⟩
  rw [hist_len hok] at *
  exact ⟨ax, cx, rfl, o, g⟩
theorem join13 (a c : Option Addr) (cap cap' : Nat) (xs ys zs : List Int) (w : World) (he : ys ++ zs = xs) (hok : okTimes xs = true) (h : Ints w a (histV ys)) (h' : Ints w c (histV zs)) :
    Calls Try.prog 17 #[.slice a 13 cap, .slice c 13 cap'] w (RetJ13 w (histV xs)) := by
  subst he
  obtain ⟨o1, o2⟩ := ok_parts hok
  obtain ⟨j1, j2⟩ := hist_parts hok
  refine (c_HistJoin a 13 cap (histV ys) c 13 cap' (histV zs) w (hist_len o1) (by omega) h (hist_len o2) (by omega) h').mono ?_
  rintro e w' ⟨ax, cx, rfl, o, g⟩
  rw [j2, hist_len hok] at *
  rw [j1]
  exact ⟨ax, cx, rfl, o, g⟩
set_option maxHeartbeats 1000000 in
theorem walkHistOf (a : Option Addr) (n cap : Nat) (z : List Int) (w : World) (w0 : IsRow .u8 w a n cap z) :
    Calls Try.prog 6 #[.slice a n cap] w fun e w' => e = .returned (.bool true) ∧ Below w.heap.size w w' := by
  by_cases hbig : 1048576 < n
  · have hb' : (1048576 : Int) < (n : Int) := by omega
    go_enter Try.func6, Try.ntmps6
    go_wp2
    go_ret
    exact ⟨rfl, Below.refl _ _⟩
  have hn' : (n : Int) ≤ 1048576 := by omega
  obtain ⟨hcl, hcap⟩ := w0.caps
  have HC := Lib.hid w0.code
  clear w0 hbig
  go_enter Try.func6, Try.ntmps6
  go_wp2_with fail
  refine (s_DrawHistOf a n cap _ hcl hcap HC.out).mono ?_
  rintro e w1 ⟨b, c, xs, rfl, hl, hx, ho, b1⟩
  have z1 := b1.size
  have Q1 := Lib.hid b1
  have O1 := Lib.hid ho
  have HX := Lib.hid (fun j (hj : j < xs.length) => show xs.getD j 0 ≤ 9223372036854775807 from by
    have := (hx (xs.getD j 0) (by simp [List.getD_eq_getElem?_getD, hj])).2
    omega)
  clear b1 ho hx
  go_wp2_with fail
  refine (c_HistOf _ _ _ xs _ rfl (by omega) (ownsRow.ints O1.out) HX.out).mono ?_; rintro e w2 ⟨ax, cx, rfl, ox, gr2⟩
  have z2 := gr2.size
  have Q2 := Lib.hid (Below.step Q1.out (grown_below gr2) (by omega))
  have O2 := Lib.hid (own_kept O1.out gr2 (fun k _ => by simp))
  have X2 := Lib.hid ox
  clear gr2 ox O1
  go_wp2_with fail
  refine (s_HistOf _ _ _ xs _ rfl (by omega) (ownsRow.ints O2.out) HX.out).mono ?_; rintro e w3 ⟨ay, cy, rfl, oy, gr3⟩
  have z3 := gr3.size
  have Q3 := Lib.hid (Below.step Q2.out (grown_below gr3) (by omega))
  have O3 := Lib.hid (own_kept O2.out gr3 (fun k _ => by simp))
  have X3 := Lib.hid (own_kept X2.out gr3 (fun k _ => by simp))
  have Y3 := Lib.hid (own_ints oy).1
  clear gr3 oy O2 X2
  have hlen : (histV xs).length ≤ 13 := by
    unfold histV
    split
    · rw [cntOf_len]; exact Nat.le_refl _
    · simp
  go_wp2_with fail
  refine (c_sameInts _ _ _ _ _ (histV xs) _ rfl (by omega) (own_ints X3.out).1 Y3.out).mono ?_; rintro e w4 ⟨rfl, b4⟩
  have z4 := b4.size
  have Q4 := Lib.hid (Below.step Q3.out b4 (by omega))
  have O4 := Lib.hid (own_kept O3.out (below_grown b4) (fun k _ => by simp))
  have X4 := Lib.hid (own_kept X3.out (below_grown b4) (fun k _ => by simp))
  clear b4 X3 Y3 O3
  cases hok : okTimes xs
  · have hV : histV xs = [] := by simp [histV, hok]
    rw [hV]
    go_wp2_with fail
    refine (c_alive _).mono ?_; rintro e w6 ⟨rfl, b6⟩
    have Q6 := Below.step Q4.out b6 (by omega)
    go_wp2_with fail
    go_ret
    exact ⟨rfl, Q6⟩
  · have h13 := hist_len hok
    have HV := Lib.hid (hist_hv hok)
    have HS := Lib.hid (hist_sum hok)
    have X4' := X4.out
    rw [h13] at X4' ⊢
    have XX := Lib.hid X4'
    clear X4' X4
    rcases (own_ints XX.out).1 with h0 | ⟨bx, offx, hax, -, -⟩
    · rw [h0] at h13; simp at h13
    subst hax
    have hk63 := ok_len hok
    go_wp2
    go_loop [5, 6] (fun s i => ∃ k : Nat, k ≤ 13 ∧ i = .int .i64 k ∧ s = .int .i64 (sumTo (histV xs) k)) (fun _ i => 13 - (intOf i).toNat)
    case atStart => exact ⟨0, Nat.zero_le _, rfl, rfl⟩
    case round =>
      obtain ⟨k, hk, rfl, rfl⟩ := hrel
      by_cases hlt : k < 13
      · have c1 : w4.cell? ⟨bx, offx + k, none⟩ = some (.int .i64 ((histV xs).getD k 0)) := by
          rcases (own_ints XX.out).1 with h0 | ⟨_, _, he, _, hc⟩
          · rw [h0] at h13; simp at h13
          · injection he with he; injection he with e1 e2; subst e1 e2; exact hc k (by omega)
        obtain ⟨p1, p2⟩ := sumTo_bd HV.out k (by omega)
        obtain ⟨p3, p4⟩ := hv_get HV.out (k := k) (by omega)
        have hs : sumTo (histV xs) (k + 1) = sumTo (histV xs) k + (histV xs).getD k 0 := rfl
        have HSS := Lib.hid hs
        clear hs
        generalize (histV xs).getD k 0 = v at *
        generalize sumTo (histV xs) k = s at *
        go_wp2
        go_round
        case rel => exact ⟨k + 1, by omega, by go_num, congrArg (Value.int .i64) HSS.out.symm⟩
        case measure => simp [intOf]; omega
      · obtain rfl : k = 13 := by omega
        rw [HS.out] at *
        go_wp2_with fail
        obtain ⟨hbl, _⟩ := O4.out.lt b rfl
        have I4 := Lib.hid (ownsRow.ints O4.out)
        have q4 : Below w.heap.size w w4.drew := ⟨Q4.out.os, Q4.out.tape, Q4.out.output, Q4.out.size, Q4.out.block⟩
        generalize hh : xs.length / 2 = h at *
        have hhl : h ≤ xs.length := by omega
        have hi1 : ((xs.length : Int) / 2) = (h : Int) := by omega
        rw [hi1]
        clear hi1 hh
        have hcaps : xs.length ≤ c := by
          rcases O4.out.2 with ⟨h1, _⟩ | ⟨_, _, _, h1, _, _, h2, _⟩
          · cases h1
          · injection h1 with _ _ h4; subst h4; exact h2
        have hc1 : h ≤ c := by omega
        have hc2 : (h : Int) ≤ (c : Int) := by omega
        have hc3 : (0 : Int) ≤ (h : Int) := by omega
        have hc4 : (h : Int) ≤ (xs.length : Int) := by omega
        have HA := Lib.hid (show (xs.take h).length = h by rw [List.length_take]; omega)
        have HB := Lib.hid (show (xs.drop h).length = xs.length - h by rw [List.length_drop])
        obtain ⟨okA, okB⟩ := ok_parts (ys := xs.take h) (zs := xs.drop h) (by rw [List.take_append_drop]; exact hok)
        have HOA := Lib.hid okA
        have HOB := Lib.hid okB
        have HOK := Lib.hid hok
        clear okA okB
        have HIA := Lib.hid (ints_take (w := w4.drew) (off := 0) (xs := xs) h ((by exact I4.out : Ints w4.drew (some ⟨b, 0, none⟩) xs)))
        have HIB := Lib.hid (ints_drop (w := w4.drew) (off := 0) (xs := xs) h ((by exact I4.out : Ints w4.drew (some ⟨b, 0, none⟩) xs)))
        have HWA := Lib.hid (wf_take h HX.out)
        have HWB := Lib.hid (wf_drop h HX.out)
        have HW := Lib.hid HX.out
        have XX4 := Lib.hid (show (w4.drew).ownsRow w1.heap.size 3 1 (.slice (some ⟨bx, offx, none⟩) 13 cx) 13 ((histV xs).map (Value.int .i64)) from XX.out)
        rw [Nat.zero_add] at HIB
        by_cases hch : c = h
        · have hIB' : Ints w4.drew (some ⟨b, 0, none⟩) (xs.drop h) := .inl (List.drop_eq_nil_of_le (by omega))
          have HIB' := Lib.hid hIB'
          clear hIB' HIB
          obtain rfl : h = c := hch.symm
          clear hch HB
          have HB := Lib.hid (show (xs.drop h).length = 0 by rw [List.length_drop]; omega)
          go_region_held3 (fun w' => Below w.heap.size w w') (first | assumption | go_keep)
            (first
              | (go_at_call_of 24 (Value.slice (some ⟨b, 0, none⟩) h h); (with_reducible refine (of13 _ _ _ (xs.take h) _ HA.out (by omega) HIA.out HWA.out HOA.out).mono ?_); rintro e w' ⟨a5, c5, rfl, o5, g5⟩
                 have kk5 : Below w.heap.size w w' := Below.step q4 (grown_below g5) (by have := q4.size; omega))
              | (go_at_call 24; (with_reducible refine (of13 _ _ _ (xs.drop h) _ HB.out (by omega) (Ints.below HIB'.out (grown_below g5)) HWB.out HOB.out).mono ?_); rintro e w' ⟨a6, c6, rfl, o6, g6⟩
                 have kk6 : Below w.heap.size w w' := Below.step kk5 (grown_below g6) (by have := kk5.size; omega))
              | (go_at_call 17; (with_reducible refine (join13 _ _ _ _ xs (xs.take h) (xs.drop h) _ (List.take_append_drop _ _) HOK.out ((own_ints o5).1.below (grown_below g6)) (own_ints o6).1).mono ?_); rintro e w' ⟨a7, c7, rfl, o7, g7⟩
                 have kk7 : Below w.heap.size w w' := Below.step kk6 (grown_below g7) (by have := kk6.size; omega)))
          clear kk5 kk6
          rename_i held
          have Q7 := Lib.hid held
          have z7 := Below.size held
          have zq := q4.size
          clear q4 held
          have Y7 := Lib.hid (show Ints _ _ (histV xs) from (own_ints o7).1)
          go_wp2_with fail
          refine (c_sameInts _ _ 13 _ _ (histV xs) _ h13 (by omega) Y7.out ((own_ints XX4.out).1.below (Below.step (Below.step (grown_below g5) (grown_below g6) g5.size) (grown_below g7) (Nat.le_trans g5.size g6.size)))).mono ?_; rintro e w8 ⟨rfl, b8⟩
          have Q8 := Lib.hid (Below.step Q7.out b8 z7)
          have X8 := Lib.hid (((own_ints XX4.out).1.below (Below.step (Below.step (grown_below g5) (grown_below g6) g5.size) (grown_below g7) (Nat.le_trans g5.size g6.size))).below b8)
          go_wp2_with fail
          refine (c_HistValid _ 13 _ (histV xs) _ h13 (by omega) X8.out).mono ?_; rintro e w9 ⟨rfl, rfl⟩
          rw [HV.out]
          go_wp2_with fail
          go_ret
          exact ⟨rfl, Q8.out⟩
        · go_region_held3 (fun w' => Below w.heap.size w w') (first | assumption | go_keep)
            (first
              | (go_at_call_of 24 (Value.slice (some ⟨b, 0, none⟩) h c); (with_reducible refine (of13 _ _ _ (xs.take h) _ HA.out (by omega) HIA.out HWA.out HOA.out).mono ?_); rintro e w' ⟨a5, c5, rfl, o5, g5⟩
                 have kk5 : Below w.heap.size w w' := Below.step q4 (grown_below g5) (by have := q4.size; omega))
              | (go_at_call 24; (with_reducible refine (of13 _ _ _ (xs.drop h) _ HB.out (by omega) (Ints.below HIB.out (grown_below g5)) HWB.out HOB.out).mono ?_); rintro e w' ⟨a6, c6, rfl, o6, g6⟩
                 have kk6 : Below w.heap.size w w' := Below.step kk5 (grown_below g6) (by have := kk5.size; omega))
              | (go_at_call 17; (with_reducible refine (join13 _ _ _ _ xs (xs.take h) (xs.drop h) _ (List.take_append_drop _ _) HOK.out ((own_ints o5).1.below (grown_below g6)) (own_ints o6).1).mono ?_); rintro e w' ⟨a7, c7, rfl, o7, g7⟩
                 have kk7 : Below w.heap.size w w' := Below.step kk6 (grown_below g7) (by have := kk6.size; omega)))
          clear kk5 kk6
          rename_i held
          have Q7 := Lib.hid held
          have z7 := Below.size held
          have zq := q4.size
          clear q4 held
          have Y7 := Lib.hid (show Ints _ _ (histV xs) from (own_ints o7).1)
          go_wp2_with fail
          refine (c_sameInts _ _ 13 _ _ (histV xs) _ h13 (by omega) Y7.out ((own_ints XX4.out).1.below (Below.step (Below.step (grown_below g5) (grown_below g6) g5.size) (grown_below g7) (Nat.le_trans g5.size g6.size)))).mono ?_; rintro e w8 ⟨rfl, b8⟩
          have Q8 := Lib.hid (Below.step Q7.out b8 z7)
          have X8 := Lib.hid (((own_ints XX4.out).1.below (Below.step (Below.step (grown_below g5) (grown_below g6) g5.size) (grown_below g7) (Nat.le_trans g5.size g6.size))).below b8)
          go_wp2_with fail
          refine (c_HistValid _ 13 _ (histV xs) _ h13 (by omega) X8.out).mono ?_; rintro e w9 ⟨rfl, rfl⟩
          rw [HV.out]
          go_wp2_with fail
          go_ret
          exact ⟨rfl, Q8.out⟩
end Go.Proofs.Ytdgfngcfodccmaa
