/- Contracts of RendezvousHost, of the program and of the reference. No condition but lists of at most 2^20 hosts. -/
import Derived.Test.YtdkdfehlmphikaaUp
import Derived.Test.YtdkdfehlmphikaaMix
namespace Go.Proofs.Ytdkdfehlmphikaa
open Go.RowKit
/-- One ticket: s is (the best host, the greatest hash). -/
def rStep (key N : Int) (t : Nat) (s : Int × Int) : Int × Int := if s.2 < mixV [key, N, t] then (N, mixV [key, N, t]) else s
def rTk (key N : Int) (s : Int × Int) : Nat → Int × Int
  | 0 => s
  | t + 1 => rStep key N t (rTk key N s t)
def rF (key : Int) (s : Int × Int) (h : H3) : Int × Int := rTk key h.1 s h.2.1.toNat
def rTo (key : Int) (us : List H3) (k : Nat) : Int × Int := (us.take k).foldl (rF key) (-1, -1)
/-- The host that a key chooses. -/
def rendV (hs : List H3) (key : Int) : Int := if pv hs && inB key 0 1000002 then (rTo key (upV hs) (upV hs).length).1 else -1
theorem rTo_succ (key : Int) (us : List H3) (k : Nat) (hk : k < us.length) : rTo key us (k + 1) = rF key (rTo key us k) (us.getD k (0, 0, 0)) := by
  have hg : us.getD k (0, 0, 0) = us[k] := by simp [List.getD_eq_getElem?_getD, hk]
  rw [rTo, List.take_succ_eq_append_getElem hk, hg, List.foldl_append]
  rfl
theorem three_ints (w : World) (x y z : Int) (g : Nat) (hg : w.heap.size = g) : Ints (w.alloc (.cells #[.int .i64 x, .int .i64 y, .int .i64 z] 3)) (some ⟨g, 0, none⟩) [x, y, z] := by
  subst hg
  refine .inr ⟨w.heap.size, 0, rfl, by simp, fun i hi => ?_⟩
  match i, hi with
  | 0, _ => simp [go_sem]
  | 1, _ => simp [go_sem]
  | 2, _ => simp [go_sem]
theorem c_mixN (a : Option Addr) (n : Nat) (xs : List Int) (W : World) (hxs : xs.length = n) (hn : n ≤ 1048576) (h : Ints W a xs) :
    Calls Try.prog 108 #[.slice a n n] W fun e w' => e = .returned (.int .i64 (mixV xs)) ∧ W = w' := by
  have HX := Lib.hid hxs
  have HI := Lib.hid h
  clear h hxs
  go_enter Try.func108, Try.ntmps108
  go_wp2_with fail
  refine (c_MixNumbers _ n n xs _ HX.out hn HI.out).mono ?_; rintro e w' ⟨rfl, rfl⟩
  go_wp2_with fail
  go_ret
  exact ⟨rfl, rfl⟩
theorem upTo_mem {hs : List H3} {h : H3} : ∀ k, k ≤ hs.length → h ∈ upTo hs k → ∃ j, j < k ∧ hs.getD j (0, 0, 0) = h
  | 0, _, hm => by simp [upTo] at hm
  | k + 1, hk, hm => by
    rw [upTo, List.mem_append] at hm
    rcases hm with hm | hm
    · obtain ⟨j, hj, e⟩ := upTo_mem k (by omega) hm
      exact ⟨j, by omega, e⟩
    · split at hm
      · simp only [List.mem_singleton] at hm; exact ⟨k, by omega, hm.symm⟩
      · cases hm
theorem pv_w {hs : List H3} (h : pv hs = true) {j : Nat} (hj : j < hs.length) : 1 ≤ (hs.getD j (0, 0, 0)).2.1 ∧ (hs.getD j (0, 0, 0)).2.1 ≤ 5 := by
  simp only [pv, Bool.and_eq_true, List.all_eq_true, List.mem_range] at h
  have := h.1 j hj
  simp only [hOk, Bool.and_eq_true] at this
  exact inB_true.1 this.1.2
theorem up_w {hs : List H3} (h : pv hs = true) {j : Nat} (hj : j < (upV hs).length) : 1 ≤ ((upV hs).getD j (0, 0, 0)).2.1 ∧ ((upV hs).getD j (0, 0, 0)).2.1 ≤ 5 := by
  have hm : (upV hs).getD j (0, 0, 0) ∈ upTo hs hs.length := by
    have hg : (upV hs).getD j (0, 0, 0) = (upV hs)[j] := by simp [List.getD_eq_getElem?_getD, hj]
    rw [hg]; exact List.getElem_mem hj
  obtain ⟨i, hi, e⟩ := upTo_mem _ (Nat.le_refl _) hm
  rw [← e]; exact pv_w h hi
theorem up_le (hs : List H3) : (upV hs).length ≤ hs.length := upTo_len hs _
set_option maxHeartbeats 2000000 in
theorem c_RendezvousHost (a : Option Addr) (n cap : Nat) (hs : List H3) (key : Int) (w : World) (hxs : hs.length = n) (hn : n ≤ 1048576) (h : Hosts w a hs) :
    Calls Try.prog 97 #[.slice a n cap, .int .i64 key] w fun e w' => e = .returned (.int .i64 (rendV hs key)) ∧ Below w.heap.size w w' := by
  have HX := Lib.hid hxs
  have HI := Lib.hid h
  clear h hxs
  cases hp : pv hs
  · have HR : Hid (rendV hs key = -1) := Lib.hid (by simp [rendV, hp])
    go_enter Try.func97, Try.ntmps97
    go_wp2_with fail
    refine (c_PoolValid a n cap hs _ HX.out hn HI.out).mono ?_; rintro e w1 ⟨rfl, b1⟩
    rw [hp]
    go_wp2_with fail
    go_ret
    exact ⟨ret_int HR.out.symm, b1⟩
  cases hk : inB key 0 1000002
  · have HR : Hid (rendV hs key = -1) := Lib.hid (by simp [rendV, hk])
    go_enter Try.func97, Try.ntmps97
    go_wp2_with fail
    refine (c_PoolValid a n cap hs _ HX.out hn HI.out).mono ?_; rintro e w1 ⟨rfl, b1⟩
    rw [hp]
    go_wp2_with fail
    refine (c_isKey _ _).mono ?_; rintro e w2 ⟨rfl, rfl⟩
    rw [hk]
    go_wp2_with fail
    go_ret
    exact ⟨ret_int HR.out.symm, b1⟩
  have HR : Hid (rendV hs key = (rTo key (upV hs) (upV hs).length).1) := Lib.hid (by simp [rendV, hk, hp])
  have HW := Lib.hid (fun (j : Nat) hj => up_w hp (j := j) hj)
  have hul := up_le hs
  rw [HX.out] at hul
  generalize hus : upV hs = us at *
  go_enter Try.func97, Try.ntmps97
  go_wp2_with fail
  refine (c_PoolValid a n cap hs _ HX.out hn HI.out).mono ?_; rintro e w1 ⟨rfl, b1⟩
  rw [hp]
  have B1 := Lib.hid b1
  have z1 := b1.size
  clear b1
  go_wp2_with fail
  refine (c_isKey _ _).mono ?_; rintro e w2 ⟨rfl, rfl⟩
  rw [hk]
  go_wp2_with fail
  refine (c_up a n cap hs _ HX.out hn (HI.out.below B1.out)).mono ?_; rintro e w3 ⟨ua, ucap, rfl, uo, ug⟩
  rw [hus] at uo ⊢
  have HU : Hid (Hosts w3 ua us) := Lib.hid (row_vals uo)
  have B3 := Lib.hid (Below.step B1.out (grown_below ug) z1)
  have z3 := B3.out.size
  clear uo ug
  generalize hun : us.length = un at *
  have HUN := Lib.hid hun
  clear hun hus
  go_wp2_with fail
  go_loopw [5, 6, 22] (fun b m i wr => ∃ (k : Nat), k ≤ un ∧ i = .int .i64 k ∧ b = .int .i64 (rTo key us k).1 ∧ m = .int .i64 (rTo key us k).2 ∧ Below w3.heap.size w3 wr) (fun _ _ i _ => un - (intOf i).toNat)
  case atStart => exact ⟨0, Nat.zero_le _, rfl, rfl, rfl, Below.refl _ _⟩
  case round =>
    obtain ⟨k, hk2, rfl, rfl, rfl, hG⟩ := hrel
    have HG := Lib.hid hG
    have hzs := hG.size
    clear hG
    by_cases hlt : k < un
    · obtain ⟨b, off, rfl, hb, hc⟩ := (HU.out.below HG.out).at HUN.out hlt
      obtain ⟨c0, c1, c2⟩ := hc k hlt
      clear hc
      have HS := Lib.hid (rTo_succ key us k (by rw [HUN.out]; exact hlt))
      obtain ⟨q1, q2⟩ := HW.out k hlt
      have hg0 : us.getD k (0, 0, 0) = ((us.getD k (0, 0, 0)).1, (us.getD k (0, 0, 0)).2.1, (us.getD k (0, 0, 0)).2.2) := rfl
      have HF : Hid (rF key (rTo key us k) (us.getD k (0, 0, 0)) = rTk key (us.getD k (0, 0, 0)).1 (rTo key us k) (us.getD k (0, 0, 0)).2.1.toNat) := Lib.hid rfl
      clear hg0
      generalize (us.getD k (0, 0, 0)).1 = N at *
      generalize (us.getD k (0, 0, 0)).2.1 = W at *
      generalize (us.getD k (0, 0, 0)).2.2 = S at *
      have HS2 := Lib.hid (HS.out.trans HF.out)
      clear HS HF
      generalize hst : rTo key us k = st at *
      clear hst
      have HG2 := Lib.hid (HG.out.alloc hzs (.cells #[.int .i64 N, .int .i64 W, .int .i64 S] 97))
      have HB : Hid (Box (wr.alloc (.cells #[.int .i64 N, .int .i64 W, .int .i64 S] 97)) wr.heap.size 97 [.int .i64 N, .int .i64 W, .int .i64 S]) := Lib.hid (Box.new2 _ _ [_, _, _] _ rfl)
      clear HG
      go_wp2_with fail
      generalize wr.heap.size = gb at *
      go_loopw [5, 6, 28] (fun b m i wr => ∃ (t : Nat), (t : Int) ≤ W ∧ i = .int .i64 t ∧ b = .int .i64 (rTk key N st t).1 ∧ m = .int .i64 (rTk key N st t).2 ∧ Below w3.heap.size w3 wr ∧ Box wr gb 97 [.int .i64 N, .int .i64 W, .int .i64 S]) (fun _ _ i _ => W.toNat - (intOf i).toNat)
      case atStart => exact ⟨0, by omega, rfl, rfl, rfl, HG2.out, HB.out⟩
      case round =>
        obtain ⟨t, ht, rfl, rfl, rfl, hG5, hB5⟩ := hrel
        have e0 : wr.cell? ⟨gb, 0, none⟩ = some (.int .i64 N) := hB5.cell 0
        have HG5 := Lib.hid hG5
        have HB5 := Lib.hid hB5
        have hz5 := hG5.size
        clear hG5 hB5
        by_cases htl : (t : Int) < W
        · have HM := Lib.hid (show rTk key N st (t + 1) = rStep key N t (rTk key N st t) from rfl)
          generalize rTk key N st t = s1 at *
          have HI3 := Lib.hid (three_ints wr key N t _ rfl)
          have e1 := keep e0 (.cells #[.int .i64 key, .int .i64 N, .int .i64 t] 3)
          by_cases hbt : s1.2 < mixV [key, N, t]
          · have HM2 : Hid (rTk key N st (t + 1) = (N, mixV [key, N, t])) := Lib.hid (by rw [HM.out, rStep, if_pos hbt])
            go_wp2_with (go_at_call 108; refine (c_mixN _ 3 [key, N, (t : Int)] _ rfl (by decide) HI3.out).mono ?_; rintro e w6 ⟨rfl, rfl⟩)
            go_roundw
            case rel => exact ⟨t + 1, by omega, by go_num, by rw [HM2.out], by rw [HM2.out], HG5.out.alloc hz5 _, HB5.out.alloc _⟩
            case measure => simp [intOf]; omega
          · have HM2 : Hid (rTk key N st (t + 1) = s1) := Lib.hid (by rw [HM.out, rStep, if_neg hbt])
            go_wp2_with (go_at_call 108; refine (c_mixN _ 3 [key, N, (t : Int)] _ rfl (by decide) HI3.out).mono ?_; rintro e w6 ⟨rfl, rfl⟩)
            go_roundw
            case rel => exact ⟨t + 1, by omega, by go_num, by rw [HM2.out], by rw [HM2.out], HG5.out.alloc hz5 _, HB5.out.alloc _⟩
            case measure => simp [intOf]; omega
        · have hte : W.toNat = t := by omega
          rw [hte] at HS2
          go_wp2_with fail
          go_roundw
          case rel => exact ⟨k + 1, by omega, by go_num, by rw [HS2.out], by rw [HS2.out], HG5.out⟩
          case measure => simp [intOf]; omega
    · obtain rfl : k = un := by omega
      go_wp2_with fail
      go_ret
      exact ⟨ret_int HR.out.symm, Below.step B3.out HG.out z3⟩
/-- The tickets of the hosts that are up among the first k. -/
def rS (key : Int) (hs : List H3) (k : Nat) : Int × Int := (upTo hs k).foldl (rF key) (-1, -1)
theorem rTo_all (key : Int) (us : List H3) : rTo key us us.length = us.foldl (rF key) (-1, -1) := by rw [rTo, List.take_length]
theorem rS_in {key : Int} {hs : List H3} {k : Nat} (hz : (hs.getD k (0, 0, 0)).2.2 = 1) : rS key hs (k + 1) = rTk key (hs.getD k (0, 0, 0)).1 (rS key hs k) (hs.getD k (0, 0, 0)).2.1.toNat := by
  rw [rS, upTo, if_pos hz, List.foldl_append]; rfl
theorem rS_out {key : Int} {hs : List H3} {k : Nat} (hz : (hs.getD k (0, 0, 0)).2.2 ≠ 1) : rS key hs (k + 1) = rS key hs k := by
  rw [rS, upTo, if_neg hz, List.append_nil]; rfl
/-- The pool is valid, and the key is one. -/
def KOk (hs : List H3) (key : Int) : Prop := pv hs = true ∧ inB key 0 1000002 = true
set_option maxHeartbeats 2000000 in
theorem s_RendezvousHost (a : Option Addr) (n cap : Nat) (hs : List H3) (key : Int) (w : World) (hxs : hs.length = n) (hn : n ≤ 1048576) (h : Hosts w a hs) :
    Calls Try.prog 93 #[.slice a n cap, .int .i64 key] w fun e w' => e = .returned (.int .i64 (rendV hs key)) ∧ Below w.heap.size w w' := by
  have HX := Lib.hid hxs
  have HI := Lib.hid h
  clear h hxs
  go_enter Try.func93, Try.ntmps93
  go_wp2
  go_loopw [5, 6, 7] (fun m b i wr => ∃ (k : Nat), k ≤ n ∧ i = .int .i64 k ∧ b = .int .i64 (rS key hs k).1 ∧ m = .int .i64 (rS key hs k).2 ∧ Below w.heap.size w wr ∧ Hid (0 < k → KOk hs key)) (fun _ _ i _ => n - (intOf i).toNat)
  case atStart => exact ⟨0, Nat.zero_le _, rfl, rfl, rfl, Below.refl _ _, Lib.hid fun h => by omega⟩
  case round =>
    obtain ⟨k, hk, rfl, rfl, rfl, hG, HY⟩ := hrel
    have HG := Lib.hid hG
    have hzs := hG.size
    clear hG
    by_cases hlt : k < n
    · cases hp : pv hs
      · have HR : Hid (rendV hs key = -1) := Lib.hid (by simp [rendV, hp])
        have hk0 : k = 0 := by
          by_cases h0 : k = 0
          · exact h0
          · have := (HY.out (by omega)).1; rw [hp] at this; cases this
        subst hk0
        have H0 : Hid ((rS key hs 0).1 = -1) := Lib.hid rfl
        go_wp2_with fail
        refine (s_PoolValid a n cap hs _ HX.out hn (HI.out.below HG.out)).mono ?_; rintro e w1 ⟨rfl, b1⟩
        have HG1 := Lib.hid (Below.step HG.out b1 hzs)
        clear b1
        rw [hp]
        go_wp2_with fail
        go_ret
        exact ⟨ret_int (by rw [HR.out, H0.out]), HG1.out⟩
      cases hq : inB key 0 1000002
      · have HR : Hid (rendV hs key = -1) := Lib.hid (by simp [rendV, hq])
        have hk0 : k = 0 := by
          by_cases h0 : k = 0
          · exact h0
          · have := (HY.out (by omega)).2; rw [hq] at this; cases this
        subst hk0
        have H0 : Hid ((rS key hs 0).1 = -1) := Lib.hid rfl
        go_wp2_with fail
        refine (s_PoolValid a n cap hs _ HX.out hn (HI.out.below HG.out)).mono ?_; rintro e w1 ⟨rfl, b1⟩
        have HG1 := Lib.hid (Below.step HG.out b1 hzs)
        clear b1
        rw [hp]
        go_wp2_with fail
        refine (c_l1In _ _ _ _).mono ?_; rintro e w2 ⟨rfl, rfl⟩
        rw [hq]
        go_wp2_with fail
        go_ret
        exact ⟨ret_int (by rw [HR.out, H0.out]), HG1.out⟩
      have HK : Hid (KOk hs key) := Lib.hid ⟨hp, hq⟩
      obtain ⟨q1, q2⟩ := pv_w hp (j := k) (by rw [HX.out]; exact hlt)
      go_wp2_with fail
      refine (s_PoolValid a n cap hs _ HX.out hn (HI.out.below HG.out)).mono ?_; rintro e w1 ⟨rfl, b1⟩
      have HG1 := Lib.hid (Below.step HG.out b1 hzs)
      have hz1 := HG1.out.size
      clear b1 HG
      rw [hp]
      go_wp2_with fail
      refine (c_l1In _ _ _ _).mono ?_; rintro e w2 ⟨rfl, rfl⟩
      rw [hq]
      obtain ⟨b, off, rfl, hb, hc⟩ := (HI.out.below HG1.out).at HX.out hlt
      obtain ⟨c0, c1, c2⟩ := hc k hlt
      clear hc
      have HS1 := Lib.hid (fun hz => rS_in (key := key) (hs := hs) (k := k) hz)
      have HS0 := Lib.hid (fun hz => rS_out (key := key) (hs := hs) (k := k) hz)
      generalize (hs.getD k (0, 0, 0)).1 = N at *
      generalize (hs.getD k (0, 0, 0)).2.1 = W at *
      generalize (hs.getD k (0, 0, 0)).2.2 = S at *
      generalize hst : rS key hs k = st at *
      clear hst
      by_cases hS : S = 1
      · have HS2 := Lib.hid (HS1.out hS)
        have hSb : (S == 1) = true := beq_iff_eq.2 hS
        clear HS1 HS0 hS
        go_wp2_with fail
        go_loopw [5, 6, 8] (fun m b' i wr => ∃ (t : Nat), (t : Int) ≤ W ∧ i = .int .i64 t ∧ b' = .int .i64 (rTk key N st t).1 ∧ m = .int .i64 (rTk key N st t).2 ∧ Below w.heap.size w wr ∧ wr.cell? ⟨b, off + k * 3, none⟩ = some (.int .i64 N) ∧ wr.cell? ⟨b, off + k * 3 + 1, none⟩ = some (.int .i64 W) ∧ wr.cell? ⟨b, off + k * 3 + 2, none⟩ = some (.int .i64 S)) (fun _ _ i _ => W.toNat - (intOf i).toNat)
        case atStart => exact ⟨0, by omega, rfl, rfl, rfl, HG1.out, c0, c1, c2⟩
        case round =>
          obtain ⟨t, ht, rfl, rfl, rfl, hG5, e0, e1, e2⟩ := hrel
          have HG5 := Lib.hid hG5
          have hz5 := hG5.size
          clear hG5
          by_cases htl : (t : Int) < W
          · have HM := Lib.hid (show rTk key N st (t + 1) = rStep key N t (rTk key N st t) from rfl)
            generalize rTk key N st t = s1 at *
            have HI3 := Lib.hid (three_ints wr key N t _ rfl)
            have f0 := keep e0 (.cells #[.int .i64 key, .int .i64 N, .int .i64 t] 3)
            have f1 := keep e1 (.cells #[.int .i64 key, .int .i64 N, .int .i64 t] 3)
            have f2 := keep e2 (.cells #[.int .i64 key, .int .i64 N, .int .i64 t] 3)
            by_cases hbt : s1.2 < mixV [key, N, t]
            · have HM2 : Hid (rTk key N st (t + 1) = (N, mixV [key, N, t])) := Lib.hid (by rw [HM.out, rStep, if_pos hbt])
              go_wp2_with (go_at_call 104; refine (s_MixNumbers _ 3 3 [key, N, (t : Int)] _ rfl (by decide) HI3.out).mono ?_; rintro e w6 ⟨rfl, rfl⟩)
              go_roundw
              case rel => exact ⟨t + 1, by omega, by go_num, by rw [HM2.out], by rw [HM2.out], HG5.out.alloc hz5 _, f0, f1, f2⟩
              case measure => simp [intOf]; omega
            · have HM2 : Hid (rTk key N st (t + 1) = s1) := Lib.hid (by rw [HM.out, rStep, if_neg hbt])
              go_wp2_with (go_at_call 104; refine (s_MixNumbers _ 3 3 [key, N, (t : Int)] _ rfl (by decide) HI3.out).mono ?_; rintro e w6 ⟨rfl, rfl⟩)
              go_roundw
              case rel => exact ⟨t + 1, by omega, by go_num, by rw [HM2.out], by rw [HM2.out], HG5.out.alloc hz5 _, f0, f1, f2⟩
              case measure => simp [intOf]; omega
          · have hte : W.toNat = t := by omega
            rw [hte] at HS2
            go_wp2_with fail
            go_roundw
            case rel => exact ⟨k + 1, by omega, by go_num, by rw [HS2.out], by rw [HS2.out], HG5.out, Lib.hid fun _ => HK.out⟩
            case measure => simp [intOf]; omega
      · have HS2 := Lib.hid (HS0.out hS)
        have hSb : (S == 1) = false := beq_eq_false_iff_ne.2 hS
        have h0W : 0 < W := by omega
        clear HS1 HS0 hS
        go_wp2_with fail
        go_loopw [5, 6, 8] (fun m b' i wr => i = .int .i64 0 ∧ b' = .int .i64 st.1 ∧ m = .int .i64 st.2 ∧ Below w.heap.size w wr ∧ wr.cell? ⟨b, off + k * 3 + 1, none⟩ = some (.int .i64 W) ∧ wr.cell? ⟨b, off + k * 3 + 2, none⟩ = some (.int .i64 S)) (fun _ _ i _ => 0)
        case atStart => exact ⟨rfl, rfl, rfl, HG1.out, c1, c2⟩
        case round =>
          obtain ⟨rfl, rfl, rfl, hG5, e1, e2⟩ := hrel
          have HG5 := Lib.hid hG5
          clear hG5
          go_wp2_with fail
          go_roundw
          case rel => exact ⟨k + 1, by omega, by go_num, by rw [HS2.out], by rw [HS2.out], HG5.out, Lib.hid fun _ => HK.out⟩
          case measure => simp [intOf]; omega
    · obtain rfl : k = n := by omega
      have hr : rendV hs key = (rS key hs k).1 := by
        by_cases h0 : 0 < k
        · obtain ⟨h1, h2⟩ := HY.out h0
          rw [rendV, h1, h2, rTo_all, rS, upV, HX.out]; rfl
        · have hk0 : k = 0 := by omega
          have : hs = [] := List.eq_nil_of_length_eq_zero (by rw [HX.out, hk0])
          subst this
          rw [hk0, rendV]
          split <;> rfl
      have HR := Lib.hid hr
      clear hr
      go_wp2_with fail
      go_ret
      exact ⟨ret_int HR.out.symm, HG.out⟩
end Go.Proofs.Ytdkdfehlmphikaa
