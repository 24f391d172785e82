/- The walk of the law FnSplitCount: true for all bytes. No condition. -/
import Derived.Test.YtdgfngcfodccmaaKeys
import Derived.Test.YtdgfngcfodccmaaDSpk
import Derived.Test.YtdgfngcfodccmaaSplitB
namespace Go.Proofs.Ytdgfngcfodccmaa
open Go.RowKit
/-- A list and a number; nothing that was there has turned. -/
def RetLN (w : World) (most : Nat) (lo hi lo' hi' : Int) (e : Ending) (w' : World) : Prop :=
  ∃ (b cap : Nat) (xs : List Int) (s : Int), e = .returned (.tuple #[.slice (some ⟨b, 0, none⟩) xs.length cap, .int .i64 s]) ∧ xs.length ≤ most ∧ xs.length ≤ cap ∧ cap ≤ maxLen ∧ (∀ x ∈ xs, lo ≤ x ∧ x ≤ hi) ∧ lo' ≤ s ∧ s ≤ hi' ∧
    Ints w' (some ⟨b, 0, none⟩) xs ∧ Below w.heap.size w w'
theorem own_caps {w : World} {base g n cap : Nat} {xs : List Value} (h : w.ownsRow base 3 1 (.slice (some ⟨g, 0, none⟩) n cap) n xs) : n ≤ cap ∧ cap ≤ maxLen := by
  rcases h.2 with ⟨h1, _⟩ | ⟨_, _, _, h1, _, _, h2, h3, _⟩
  · cases h1
  · injection h1 with _ _ h4
    subst h4
    exact ⟨h2, h3⟩
set_option maxHeartbeats 1000000 in
theorem s_DrawSplitCount (a : Option Addr) (len cap : Nat) (w : World) (hcl : len ≤ cap) (hcap : cap ≤ maxLen) (h : Code w.heap.size w a len) :
    Calls Try.prog 27 #[.slice a len cap] w (RetLN w 7 (-1) 1000003 (-1) 101) := by
  have HC := Lib.hid h
  clear h
  go_enter Try.func27, Try.ntmps27
  go_wp2_with fail
  refine (c_open (D := w.heap.size) a len cap _ hcl hcap (by simp) HC.out).mono ?_
  rintro e w1 ⟨g, rfl, hg, hr, hb⟩
  have HR := Lib.hid hr
  have HB := Lib.hid hb
  have hz := hb.size
  clear hr hb
  go_wp2_with fail
  refine (s_l20Keys g 0 60 _ HR.out (by omega) (by omega) (by omega)).mono ?_
  rintro e w2 ⟨b, c2, xs, rfl, hl, hx, hown, ⟨p2, hp2, hr2⟩, hg2⟩
  have HR2 := Lib.hid hr2
  have HG2 := Lib.hid hg2
  have HX := Lib.hid hx
  have hcaps := own_caps hown
  obtain ⟨hbl, _⟩ := hown.lt b rfl
  have hlt1 : g < w1.heap.size := HR.out.lt
  have HO := Lib.hid hown
  clear hr2 hg2 hx hown
  go_wp2_with fail
  refine (s_l20Share g p2 _ HR2.out (by omega)).mono ?_
  rintro e w3 ⟨s, rfl, s1, s2, _, hg3⟩
  have q := HB.out.trans (gb_below (grownBy_tr HG2.out hg3) (by omega) (by omega))
  have HO3 := HO.out.kept hg3 (.inr (by simp [Value.ownBlock]; omega))
  clear hg3 HR HR2 HB HG2
  go_wp2_with fail
  refine bodyPost_ret (v := .tuple #[.slice (some ⟨b, 0, none⟩) xs.length c2, .int .i64 s]) (by simp [results, Try.results27, go_sem]) rfl ?_
  exact ⟨b, c2, xs, s, rfl, hl, hcaps.1, hcaps.2, HX.out, s1, s2, ownsRow.ints HO3, q⟩
theorem cntTo_mono {xs : List Int} {s : Int} (h : s < 100) : ∀ k, cntTo xs s k ≤ cntTo xs (s + 1) k
  | 0 => by simp [cntTo]
  | k + 1 => by
    have ih := cntTo_mono (xs := xs) h k
    simp only [cntTo]
    cases h1 : splitB (xs.getD k 0) s
    · simp only [Bool.false_eq_true, if_false]; split <;> omega
    · have h2 : splitB (xs.getD k 0) (s + 1) = true := (split_next h1).resolve_left (by omega)
      rw [h2]; simp only [if_true]; omega
theorem cntTo_all {xs : List Int} (h : keyOk xs = true) : ∀ k, k ≤ xs.length → cntTo xs 100 k = k
  | 0, _ => by simp [cntTo]
  | k + 1, hk => by
    have ih := cntTo_all h k (by omega)
    have hm : inB (xs.getD k 0) 0 1000002 = true := by
      have := List.all_eq_true.1 h (xs.getD k 0) (by simp [List.getD_eq_getElem?_getD, show k < xs.length by omega])
      exact this
    have h1 : splitB (xs.getD k 0) 100 = true := by rw [split_all, hm]
    simp only [cntTo, ih, h1, if_true]
    omega
theorem cnt_law (xs : List Int) (s : Int) : cntV xs s = -1 ∨ (0 ≤ cntV xs s ∧ cntV xs s ≤ xs.length ∧ s ≤ 100 ∧ (s = 100 → cntV xs s = xs.length) ∧ (s < 100 → cntV xs s ≤ cntV xs (s + 1))) := by
  unfold cntV
  by_cases hc : (decide (xs.length ≤ 60) && inB s 0 100 && keyOk xs) = true
  · rw [if_pos hc]
    simp only [Bool.and_eq_true] at hc
    obtain ⟨⟨h1, h2⟩, h3⟩ := hc
    obtain ⟨h4, h5⟩ := inB_true.1 h2
    have hb := cntTo_bd xs s xs.length
    refine .inr ⟨hb.1, hb.2, h5, fun e => ?_, fun e => ?_⟩
    · subst e; exact cntTo_all h3 _ (Nat.le_refl _)
    · have h6 : inB (s + 1) 0 100 = true := inB_true.2 (by omega)
      rw [if_pos (by simp only [h1, h6, h3, Bool.and_self])]
      exact cntTo_mono e _
  · exact .inl (if_neg hc)
set_option maxHeartbeats 1000000 in
theorem walkSplitCount (a : Option Addr) (n cap : Nat) (z : List Int) (w : World) (w0 : IsRow .u8 w a n cap z) :
    Calls Try.prog 7 #[.slice a n cap] w fun e w' => e = .returned (.bool true) ∧ Below w.heap.size w w' := by
  by_cases hbig : 1048576 < n
  · have hb' : (1048576 : Int) < (n : Int) := by omega
    go_enter Try.func7, Try.ntmps7
    go_wp2
    go_ret
    exact ⟨rfl, Below.refl _ _⟩
  have hn' : (n : Int) ≤ 1048576 := by omega
  obtain ⟨hcl, hcap⟩ := w0.caps
  have HC := Lib.hid w0.code
  clear w0 hbig
  go_enter Try.func7, Try.ntmps7
  go_wp2_with fail
  refine (s_DrawSplitCount a n cap _ hcl hcap HC.out).mono ?_
  rintro e w1 ⟨b, c, xs, s, rfl, hl, hc1, hc2, _, s1, s2, hi, b1⟩
  have z1 := b1.size
  have Q1 := Lib.hid b1
  have I1 := Lib.hid hi
  clear b1 hi
  go_wp2_with fail
  refine (c_SplitCount _ xs.length c xs s _ rfl (by omega) I1.out).mono ?_; rintro e w2 ⟨rfl, b2⟩
  have Q2 := Lib.hid (Below.step Q1.out b2 (by omega))
  have I2 := Lib.hid (I1.out.below b2)
  have z2 := b2.size
  clear b2
  go_wp2_with fail
  refine (s_SplitCount _ xs.length c xs s _ rfl (by omega) I2.out).mono ?_; rintro e w3 ⟨rfl, b3⟩
  have Q3 := Lib.hid (Below.step Q2.out b3 (by omega))
  have I3 := Lib.hid (I2.out.below b3)
  have z3 := b3.size
  clear b3
  rcases cnt_law xs s with hv | ⟨v1, v2, v3, v4, v5⟩
  · rw [hv]
    go_wp2_with fail
    refine (c_alive _).mono ?_; rintro e w6 ⟨rfl, b6⟩
    have Q6 := Below.step Q3.out b6 (by omega)
    go_wp2_with fail
    go_ret
    exact ⟨rfl, Q6⟩
  · by_cases hs : s = 100
    · have hv := v4 hs
      subst hs
      rw [hv]
      clear v4 v5 hv
      go_wp2_with fail
      go_ret
      exact ⟨rfl, Q3.out⟩
    · have hs1 : s < 100 := by omega
      have HV := Lib.hid (v5 hs1)
      generalize cntV xs s = v at *
      clear v4 v5
      go_wp2_with fail
      refine (c_SplitCount _ xs.length c xs (s + 1) _ rfl (by omega) I3.out).mono ?_; rintro e w4 ⟨rfl, b4⟩
      have Q4 := Lib.hid (Below.step Q3.out b4 (by omega))
      clear b4
      generalize cntV xs (s + 1) = u at *
      have hvu := HV.out
      go_wp2_with fail
      go_ret
      exact ⟨rfl, Q4.out⟩
end Go.Proofs.Ytdgfngcfodccmaa
