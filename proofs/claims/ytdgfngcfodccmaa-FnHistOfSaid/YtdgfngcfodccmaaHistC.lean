/- Contracts of HistOf, of the program and of the reference. No condition but a list of at most 2^20 numbers. -/
import Derived.Test.YtdgfngcfodccmaaClass
import Derived.Test.YtdgfngcfodccmaaHistB
import Derived.Test.YtdgfngcfodccmaaNew
import Derived.Deep.RegionHeld3
namespace Go.Proofs.Ytdgfngcfodccmaa
open Go.RowKit
/-- One time more. -/
def bump (C : List Int) (x : Int) : List Int := C.set (cls x).toNat (C.getD (cls x).toNat 0 + 1)
def cntOf (xs : List Int) (k : Nat) : List Int := (xs.take k).foldl bump (List.replicate 13 0)
def okTimes (xs : List Int) : Bool := decide (xs.length ≤ 60) && xs.all fun x => decide (0 ≤ x)
def histV (xs : List Int) : List Int := if okTimes xs then cntOf xs xs.length else []
theorem bump_len (C : List Int) (x : Int) : (bump C x).length = C.length := by simp [bump]
theorem cntOf_zero (xs : List Int) : cntOf xs 0 = List.replicate 13 0 := by simp [cntOf]
theorem cntOf_succ (xs : List Int) (k : Nat) (hk : k < xs.length) : cntOf xs (k + 1) = bump (cntOf xs k) (xs.getD k 0) := by
  unfold cntOf
  rw [List.take_succ_eq_append_getElem hk, List.foldl_append]
  have : xs.getD k 0 = xs[k] := by simp [List.getD_eq_getElem?_getD, hk]
  rw [this]; rfl
theorem foldl_len (ys : List Int) : ∀ C : List Int, (ys.foldl bump C).length = C.length := by
  induction ys with
  | nil => intro C; rfl
  | cons y r ih => intro C; rw [List.foldl_cons, ih, bump_len]
theorem cntOf_len (xs : List Int) (k : Nat) : (cntOf xs k).length = 13 := by rw [cntOf, foldl_len]; simp
theorem cls_bd {x : Int} (h : 0 ≤ x) : 0 ≤ cls x ∧ cls x ≤ 12 := by
  have := halves_le 12 x.toNat
  rw [cls, if_neg (by omega)]; omega
theorem bump_get (C : List Int) (x : Int) (j : Nat) : (bump C x).getD j 0 = C.getD j 0 ∨ (bump C x).getD j 0 = C.getD j 0 + 1 ∨ (bump C x).getD j 0 = 0 := by
  unfold bump
  by_cases hj : j < C.length
  · by_cases he : (cls x).toNat = j
    · subst he; right; left; simp [List.getD_eq_getElem?_getD, hj]
    · left; simp [List.getD_eq_getElem?_getD, List.getElem?_set_ne he]
  · right; right; simp [List.getD_eq_getElem?_getD, hj]
theorem fold_bd (ys : List Int) : ∀ (C : List Int) (n : Int), 0 ≤ n → (∀ j, 0 ≤ C.getD j 0 ∧ C.getD j 0 ≤ n) → ∀ j, 0 ≤ (ys.foldl bump C).getD j 0 ∧ (ys.foldl bump C).getD j 0 ≤ n + ys.length := by
  induction ys with
  | nil => intro C n _ h j; simpa using h j
  | cons y r ih =>
    intro C n hn h j
    have := ih (bump C y) (n + 1) (by omega) (fun j => by
      have h1 := h j
      rcases bump_get C y j with h | h | h <;> omega) j
    rw [List.foldl_cons, List.length_cons]
    omega
theorem zero_get (j : Nat) : (List.replicate 13 (0 : Int)).getD j 0 = 0 := by
  rw [List.getD_eq_getElem?_getD, List.getElem?_replicate]; split <;> rfl
theorem gb_row {w w1 w2 : World} {b : Nat} (h : w.grownBy w1 none) (k : w1.grownBy w2 (some b)) (hb : w.heap.size ≤ b) : w.grownBy w2 none :=
  ⟨k.os.trans h.os, k.tape.trans h.tape, k.output.trans h.output, Nat.le_trans h.size k.size, fun i hi hr => (k.block i (Nat.lt_of_lt_of_le hi h.size) (by
    intro e
    have : i = b := by simpa using e
    omega)).trans (h.block i hi hr)⟩
theorem cntOf_bd (xs : List Int) (k j : Nat) (hk : k ≤ xs.length) : 0 ≤ (cntOf xs k).getD j 0 ∧ (cntOf xs k).getD j 0 ≤ k := by
  have := fold_bd (xs.take k) (List.replicate 13 0) 0 (Int.le_refl _) (fun j => by
    rw [zero_get]; omega) j
  rw [List.length_take, Nat.min_eq_left hk] at this
  unfold cntOf
  omega
theorem infoInt8' : (Try.prog.info? 3).map (fun i => (i.zero, i.size, i.bytes)) = some (some (.int .i64 0), 1, 8) := by kernel_rfl
theorem own_nil (w : World) (B : Nat) : w.ownsRow B 3 1 (.slice none 0 0) 0 [] := ⟨rfl, .inl ⟨rfl, rfl⟩⟩
theorem okTimes_not {xs : List Int} {k : Nat} (hk : k < xs.length) (h : xs.getD k 0 < 0) : okTimes xs = false := by
  have : (xs.all fun x => decide (0 ≤ x)) = false := by
    rw [← Bool.not_eq_true]
    intro h'
    have h2 : 0 ≤ xs.getD k 0 := of_decide_eq_true (List.all_eq_true.1 h' (xs.getD k 0) (by simp [List.getD_eq_getElem?_getD, hk]))
    omega
  simp [okTimes, this]
theorem okTimes_of {xs : List Int} (hl : xs.length ≤ 60) (h : ∀ j, j < xs.length → 0 ≤ xs.getD j 0) : okTimes xs = true := by
  simp only [okTimes, Bool.and_eq_true, decide_eq_true_eq]
  refine ⟨hl, List.all_eq_true.2 fun x hx => ?_⟩
  obtain ⟨j, hj, rfl⟩ := List.mem_iff_getElem.1 hx
  have := h j hj
  simpa [List.getD_eq_getElem?_getD, hj] using this
theorem zeros13 : (madeCells #[Value.int .i64 0] 13).toList = (List.replicate 13 (0 : Int)).map (Value.int .i64) := by
  first | rfl | kernel_rfl
theorem own_get {w : World} {base g n cap : Nat} {xs : List Int} (h : w.ownsRow base 3 1 (.slice (some ⟨g, 0, none⟩) n cap) n (xs.map (Value.int .i64))) (k : Nat) (hk : k < xs.length) : w.cell? ⟨g, k, none⟩ = some (.int .i64 (xs.getD k 0)) := by
  have hl : xs.length = n := by have := h.1; simpa using this
  rw [h.cellAt k (by omega), List.getElem?_map, getD_of_lt hk]; rfl
set_option maxHeartbeats 1000000 in
theorem c_HistOf (a : Option Addr) (n cap : Nat) (xs : List Int) (w : World) (hxs : xs.length = n) (hn : n ≤ 1048576) (h : Ints w a xs) (hwf : ∀ j, j < xs.length → (xs.getD j 0) ≤ 9223372036854775807) :
    Calls Try.prog 24 #[.slice a n cap] w (RetNew w (histV xs)) := by
  obtain ⟨i0, hi, hz0, hz1, hz2⟩ := info_parts infoInt8'
  by_cases h60 : 60 < n
  · have h60' : (60 : Int) < (n : Int) := by omega
    have hv : histV xs = [] := by
      have : okTimes xs = false := by simp [okTimes, show ¬ xs.length ≤ 60 by omega]
      simp [histV, this]
    go_enter Try.func24, Try.ntmps24
    go_wp2
    go_ret
    rw [hv]
    exact ⟨none, 0, rfl, own_nil _ _, World.grownBy.refl _ _⟩
  have h60' : (n : Int) ≤ 60 := by omega
  have HX := Lib.hid hxs
  have HI := Lib.hid h
  have HW := Lib.hid hwf
  clear h hxs hwf
  go_enter Try.func24, Try.ntmps24
  go_wp2_with (at_make; refine wpList_make_full _ rfl _ _ 32 rfl w.heap.size 3 i0 (.int .i64 0) 1 Try.underlying32 hi hz0 hz1 .i64 .i64 _ _ 13 rfl rfl rfl rfl ?c1 ?c2 ?c3 ?c4)
  case c1 => rw [hz2]; omega
  case c2 => unfold maxLen; omega
  case c3 => exact Nat.le_refl _
  case c4 =>
    intro w1 hown hgr
    rw [zeros13] at hown
    have HO := Lib.hid hown
    have HG := Lib.hid hgr
    clear hown hgr
    go_wp2
    go_loopw [12] (fun i wr => ∃ (k : Nat), k ≤ n ∧ i = .int .i64 k ∧ (∀ j, j < k → 0 ≤ xs.getD j 0) ∧ wr.ownsRow w.heap.size 3 1 (.slice (some ⟨w.heap.size, 0, none⟩) 13 13) 13 ((cntOf xs k).map (Value.int .i64)) ∧ w.grownBy wr none) (fun i _ => n - (intOf i).toNat)
    case atStart => exact ⟨0, Nat.zero_le _, rfl, fun j hj => by omega, by rw [cntOf_zero]; exact HO.out, HG.out⟩
    case round =>
      obtain ⟨k, hk, rfl, hval, hown, hgr⟩ := hrel
      have HV := Lib.hid hval
      have HO2 := Lib.hid hown
      have HG2 := Lib.hid hgr
      have hx := HX.out
      clear hown hgr hval HO HG
      by_cases hlt : k < n
      · have hsrc := HI.out.below (grown_below HG2.out)
        rcases hsrc with h0 | ⟨b, off, ha, hb, hcell⟩
        · rw [h0] at hx; simp at hx; omega
        · have hc1 := hcell k (by omega)
          subst ha
          clear hcell
          by_cases hneg : xs.getD k 0 < 0
          · have hv : histV xs = [] := by simp [histV, okTimes_not (by omega) hneg]
            have HV' := Lib.hid hv
            clear hv
            generalize xs.getD k 0 = x at *
            go_wp2
            go_ret
            rw [HV'.out]
            exact ⟨none, 0, rfl, own_nil _ _, HG2.out⟩
          · have hx0 : 0 ≤ xs.getD k 0 := by omega
            have hx1 := HW.out k (by omega)
            obtain ⟨c0, c1⟩ := cls_bd hx0
            have hb := cntOf_bd xs k (cls (xs.getD k 0)).toNat (by omega)
            have hs := cntOf_succ xs k (by omega)
            have hl := cntOf_len xs k
            have hc2 := own_get HO2.out (cls (xs.getD k 0)).toNat (by omega)
            have hc3 := HO2.out.frozenAt (cls (xs.getD k 0)).toNat
            have hst := HO2.out.stored (cls (xs.getD k 0)).toNat (.int .i64 ((cntOf xs k).getD (cls (xs.getD k 0)).toNat 0 + 1))
            have hset : ((cntOf xs k).map (Value.int .i64)).set (cls (xs.getD k 0)).toNat (.int .i64 ((cntOf xs k).getD (cls (xs.getD k 0)).toNat 0 + 1)) = (cntOf xs (k + 1)).map (Value.int .i64) := by
              rw [hs, bump, List.map_set]
            rw [hset] at hst
            have HS := Lib.hid hst
            have HK := Lib.hid (c_ClassOf (xs.getD k 0) wr (by omega) hx1)
            have HV2 : Hid (∀ j, j < k + 1 → 0 ≤ xs.getD j 0) := Lib.hid (fun j hj => by
              by_cases hjk : j = k
              · subst hjk; exact hx0
              · exact HV.out j (by omega))
            clear hst hset hs hl
            obtain ⟨c, hc⟩ := Int.eq_ofNat_of_zero_le c0
            rw [hc] at hc2 hc3 HS HK c1 hb
            simp only [Int.toNat_natCast] at hc2 hc3 HS hb
            generalize (cntOf xs k).getD c 0 = v at *
            clear hc c0 hx0 hx1 HV
            generalize xs.getD k 0 = x at *
            go_wp2_with fail
            refine HK.out.mono ?_
            rintro e w' ⟨rfl, rfl⟩
            go_wp2
            go_roundw
            case rel =>
              exact ⟨k + 1, by omega, by go_num, HV2.out, HS.out.1, gb_row HG2.out HS.out.2 (Nat.le_refl _)⟩
            case measure => simp [intOf]; omega
      · go_wp2
        go_ret
        have hkn : k = n := by omega
        subst hkn
        subst hx
        have hok : okTimes xs = true := okTimes_of (by omega) HV.out
        have hv : histV xs = cntOf xs xs.length := by simp [histV, hok]
        rw [hv]
        have hl := cntOf_len xs xs.length
        rw [show (Value.slice (some ⟨w.heap.size, 0, none⟩) 13 13) = Value.slice (some ⟨w.heap.size, 0, none⟩) (cntOf xs xs.length).length 13 from by rw [hl]] at *
        refine ⟨some ⟨w.heap.size, 0, none⟩, 13, rfl, ?_, HG2.out⟩
        have := HO2.out
        rw [hl] at this ⊢
        exact this
end Go.Proofs.Ytdgfngcfodccmaa
