/- Contracts of ZoneHosts, of the program and of the reference. No condition but lists of at most 2^20. -/
import Derived.Test.YtdpmlkigmadajaaHost
namespace Go.Proofs.Ytdpmlkigmadajaa
open Go.RowKit
/-- The hosts among the first k that are in the zone. -/
def zoneTo (hs : List H3) (zs : List Int) (z : Int) : Nat → List H3
  | 0 => []
  | k + 1 => zoneTo hs zs z k ++ if zs.getD k 0 = z then [hs.getD k (0, 0, 0)] else []
def zoneV (hs : List H3) (zs : List Int) (z : Int) : List H3 := if pv hs && decide (zs.length = hs.length) then zoneTo hs zs z hs.length else []
theorem zoneTo_len (hs : List H3) (zs : List Int) (z : Int) : ∀ k, (zoneTo hs zs z k).length ≤ k
  | 0 => Nat.le_refl _
  | k + 1 => by
    have := zoneTo_len hs zs z k
    simp only [zoneTo, List.length_append]
    split <;> simp <;> omega
theorem zoneV_len (hs : List H3) (zs : List Int) (z : Int) : (zoneV hs zs z).length ≤ hs.length := by
  unfold zoneV
  split
  · exact zoneTo_len _ _ _ _
  · simp
theorem zoneV_no {hs : List H3} {zs : List Int} {z : Int} (h : pv hs = false ∨ zs.length ≠ hs.length) : zoneV hs zs z = [] := by
  unfold zoneV
  rcases h with h | h <;> simp [h]
theorem zoneV_yes {hs : List H3} {zs : List Int} {z : Int} (h : pv hs = true) (h2 : zs.length = hs.length) : zoneV hs zs z = zoneTo hs zs z hs.length := by
  simp [zoneV, h, h2]
theorem hcells_snoc (hs : List H3) (h : H3) : hcells (hs ++ [h]) = hcells hs ++ hcell h := by simp [hcells]
theorem elemHost : Elem 31 76 3 24 := elem_mk (.agg #[.int .i64 0, .int .i64 0, .int .i64 0]) Try.underlying31 (by kernel_rfl) rfl (by decide) (by decide)
theorem one3 (a b c : Int) : ∀ u ∈ [Value.int .i64 a, .int .i64 b, .int .i64 c], u.oneCell' = true := by
  intro u hu
  simp only [List.mem_cons, List.not_mem_nil, or_false] at hu
  rcases hu with rfl | rfl | rfl <;> rfl
theorem zone_in {hs : List H3} {zs : List Int} {z : Int} {k : Nat} {N W S : Int} (hz : zs.getD k 0 = z) (h : (hs.getD k (0, 0, 0)) = (N, W, S)) : hcells (zoneTo hs zs z (k + 1)) = hcells (zoneTo hs zs z k) ++ [.int .i64 N, .int .i64 W, .int .i64 S] ∧ (zoneTo hs zs z (k + 1)).length = (zoneTo hs zs z k).length + 1 := by
  have e : zoneTo hs zs z (k + 1) = zoneTo hs zs z k ++ [hs.getD k (0, 0, 0)] := by rw [zoneTo, if_pos hz]
  rw [e, hcells_snoc, h]
  exact ⟨rfl, by simp⟩
theorem zone_out {hs : List H3} {zs : List Int} {z : Int} {k : Nat} (hz : zs.getD k 0 ≠ z) : zoneTo hs zs z (k + 1) = zoneTo hs zs z k := by
  rw [zoneTo, if_neg hz, List.append_nil]
theorem ret_noRow (w w' : World) (e : TypeId) (size : Nat) (xs : List H3) (h : xs = []) (hb : Below w.heap.size w w') : RetRow w e size xs.length (hcells xs) (.returned (.slice none 0 0)) w' := by
  subst h; exact ⟨none, 0, rfl, row_nil _ _ _ _, below_grown hb⟩
set_option maxHeartbeats 2000000 in
theorem c_ZoneHosts (a : Option Addr) (n cap : Nat) (hs : List H3) (a' : Option Addr) (n' cap' : Nat) (zs : List Int) (z : Int) (w : World) (hxs : hs.length = n) (hn : n ≤ 1048576) (h : Hosts w a hs) (hys : zs.length = n') (hn2 : n' ≤ 1048576) (h' : Ints w a' zs) :
    Calls Try.prog 18 #[.slice a n cap, .slice a' n' cap', .int .i64 z] w (RetRow w 76 3 (zoneV hs zs z).length (hcells (zoneV hs zs z))) := by
  have HX := Lib.hid hxs
  have HY := Lib.hid hys
  have HI := Lib.hid h
  have HJ := Lib.hid h'
  clear h h' hxs hys
  cases hp : pv hs
  · have HR := Lib.hid (zoneV_no (hs := hs) (zs := zs) (z := z) (.inl hp))
    go_enter Try.func18, Try.ntmps18
    go_wp2_with fail
    refine (c_PoolValid a n cap hs _ HX.out hn HI.out).mono ?_; rintro e w1 ⟨rfl, b1⟩
    rw [hp]
    go_wp2_with fail
    go_ret
    exact ret_noRow _ _ _ _ _ HR.out b1
  by_cases hne : n' = n
  · have HR := Lib.hid (zoneV_yes (hs := hs) (zs := zs) (z := z) hp (by rw [HX.out, HY.out]; exact hne))
    subst hne
    go_enter Try.func18, Try.ntmps18
    go_wp2_with fail
    refine (c_PoolValid a n' cap hs _ HX.out hn HI.out).mono ?_; rintro e w1 ⟨rfl, b1⟩
    rw [hp]
    have B1 := Lib.hid b1
    have z1 := b1.size
    clear b1
    go_wp2
    go_loopw [7, 22] (fun v i wr => ∃ (k m : Nat) (ao : Option Addr) (c : Nat), k ≤ n' ∧ i = .int .i64 k ∧ v = .slice ao m c ∧ wr.ownsRow w.heap.size 76 3 (.slice ao m c) m (hcells (zoneTo hs zs z k)) ∧ Below w.heap.size w wr ∧ m ≤ k ∧ Hid (m = (zoneTo hs zs z k).length)) (fun _ i _ => n' - (intOf i).toNat)
    case atStart => exact ⟨0, 0, none, 0, Nat.zero_le _, rfl, rfl, row_nil _ _ _ _, B1.out, Nat.le_refl _, Lib.hid rfl⟩
    case round =>
      obtain ⟨k, m, ao, c, hk, rfl, rfl, hown, hgr, hmk, HM⟩ := hrel
      have HO := Lib.hid hown
      have HG := Lib.hid hgr
      have hzs := hgr.size
      clear hown hgr
      by_cases hlt : k < n'
      · obtain ⟨b, off, rfl, hb, hc⟩ := (HI.out.below HG.out).at HX.out hlt
        obtain ⟨c0, c1, c2⟩ := hc k hlt
        rcases HJ.out.below HG.out with h0 | ⟨b2, off2, ha2, hb2, hc2⟩
        · have := HY.out; rw [h0] at this; simp at this; omega
        have d0 := hc2 k (by have := HY.out; omega)
        subst ha2
        clear hc hc2
        have hg0 : hs.getD k (0, 0, 0) = ((hs.getD k (0, 0, 0)).1, (hs.getD k (0, 0, 0)).2.1, (hs.getD k (0, 0, 0)).2.2) := rfl
        have HZ := Lib.hid (fun hz => zone_in (hs := hs) (zs := zs) (z := z) (k := k) hz hg0)
        have HZ2 := Lib.hid (fun hz => zone_out (hs := hs) (zs := zs) (z := z) (k := k) hz)
        clear hg0
        generalize (hs.getD k (0, 0, 0)).1 = N at *
        generalize (hs.getD k (0, 0, 0)).2.1 = W at *
        generalize (hs.getD k (0, 0, 0)).2.2 = S at *
        generalize zs.getD k 0 = q at *
        by_cases hq : q = z
        · subst hq
          obtain ⟨e1, e2⟩ := HZ.out rfl
          have HE := Lib.hid (And.intro e1 e2)
          have HO2 := Lib.hid (HO.out.alloc (.cells #[.int .i64 N, .int .i64 W, .int .i64 S] 76))
          have HG2 := Lib.hid (HG.out.alloc hzs (.cells #[.int .i64 N, .int .i64 W, .int .i64 S] 76))
          clear e1 e2 HZ HZ2
          go_wp2_with (at_builtin; refine wpl_app _ rfl elemHost (.tmp 33) (.tmp 35) rfl w.heap.size _ _ _ rfl (HO2.out.alloc _) _ 1 1 [.int .i64 N, .int .i64 W, .int .i64 S] rfl rfl (news_of (Box.new2 _ 76 [_, _, _] _ (by simp))) (one3 _ _ _) (by decide) ?c1 ?c2 (m + 1) rfl _ rfl ?c4)
          case c1 => omega
          case c2 => simp; omega
          case c4 =>
            intro b' cap'' w5 hown hgrow hat hlt5
            have HG5 := Lib.hid ((HG2.out.alloc (by simp; omega) (.cells #[.int .i64 N, .int .i64 W, .int .i64 S] 76)).grown hgrow (by simp; omega) (fun g hg => (HO2.out.lt g hg).1))
            have HO5 := Lib.hid hown
            clear hown hgrow hat
            go_wp2
            go_roundw
            case rel =>
              refine ⟨k + 1, m + 1, some ⟨b', 0, none⟩, cap'', by omega, by go_num, rfl, ?_, HG5.out, by omega, Lib.hid (by rw [HE.out.2, HM.out])⟩
              rw [HE.out.1]
              exact HO5.out
            case measure => simp [intOf]; omega
        · have hqb : (q == z) = false := beq_eq_false_iff_ne.2 hq
          have HE := Lib.hid (HZ2.out hq)
          clear HZ HZ2
          go_wp2
          go_roundw
          case rel =>
            refine ⟨k + 1, m, ao, c, by omega, by go_num, rfl, ?_, HG.out.alloc hzs _, by omega, Lib.hid (by rw [HE.out, HM.out])⟩
            rw [HE.out]
            exact HO.out.alloc _
          case measure => simp [intOf]; omega
      · obtain rfl : k = n' := by omega
        go_wp2
        go_ret
        have hx := HX.out
        have hm := HM.out
        rw [HR.out, hx, ← hm]
        exact ⟨ao, c, rfl, HO.out, below_grown HG.out⟩
  · have HR := Lib.hid (zoneV_no (hs := hs) (zs := zs) (z := z) (.inr (by rw [HX.out, HY.out]; exact hne)))
    have hnb : ((n' : Int) == (n : Int)) = false := beq_eq_false_iff_ne.2 (by omega)
    go_enter Try.func18, Try.ntmps18
    go_wp2_with fail
    refine (c_PoolValid a n cap hs _ HX.out hn HI.out).mono ?_; rintro e w1 ⟨rfl, b1⟩
    rw [hp]
    go_wp2_with fail
    go_ret
    exact ret_noRow _ _ _ _ _ HR.out b1
/-- The pool is valid, and there are as many zones. -/
def ZOk (hs : List H3) (n n' : Nat) : Prop := pv hs = true ∧ n' = n
theorem ret_noRow2 (w w' : World) (e : TypeId) (size : Nat) (xs : List H3) (h : xs = []) (b c : Nat) (ho : w'.ownsRow w.heap.size e size (.slice (some ⟨b, 0, none⟩) 0 c) 0 (hcells [])) (hb : Below w.heap.size w w') : RetRow w e size xs.length (hcells xs) (.returned (.slice (some ⟨b, 0, none⟩) 0 c)) w' := by
  subst h; exact ⟨_, c, rfl, ho, below_grown hb⟩
set_option maxHeartbeats 2000000 in
theorem s_ZoneHosts (a : Option Addr) (n cap : Nat) (hs : List H3) (a' : Option Addr) (n' cap' : Nat) (zs : List Int) (z : Int) (w : World) (hxs : hs.length = n) (hn : n ≤ 1048576) (h : Hosts w a hs) (hys : zs.length = n') (_ : n' ≤ 1048576) (h' : Ints w a' zs) :
    Calls Try.prog 20 #[.slice a n cap, .slice a' n' cap', .int .i64 z] w (RetRow w 76 3 (zoneV hs zs z).length (hcells (zoneV hs zs z))) := by
  have HX := Lib.hid hxs
  have HY := Lib.hid hys
  have HI := Lib.hid h
  have HJ := Lib.hid h'
  clear h h' hxs hys
  go_enter Try.func20, Try.ntmps20
  go_wp2
  go_loopw [7, 8] (fun v i wr => ∃ (k m : Nat) (b : Nat) (c : Nat), k ≤ n ∧ i = .int .i64 k ∧ v = .slice (some ⟨b, 0, none⟩) m c ∧ wr.ownsRow w.heap.size 76 3 (.slice (some ⟨b, 0, none⟩) m c) m (hcells (zoneTo hs zs z k)) ∧ Below w.heap.size w wr ∧ m ≤ k ∧ Hid (m = (zoneTo hs zs z k).length) ∧ Hid (0 < k → ZOk hs n n')) (fun _ i _ => n - (intOf i).toNat)
  case atStart => exact ⟨0, 0, w.heap.size, 0, Nat.zero_le _, rfl, rfl, row_emp w _ _ _ rfl (Nat.le_refl _), by go_grown, Nat.le_refl _, Lib.hid rfl, Lib.hid fun h => by omega⟩
  case round =>
    obtain ⟨k, m, bo, c, hk, rfl, rfl, hown, hgr, hmk, HM, HY2⟩ := hrel
    have HO := Lib.hid hown
    have HG := Lib.hid hgr
    have hzs := hgr.size
    clear hown hgr
    by_cases hlt : k < n
    · cases hp : pv hs
      · have HR := Lib.hid (zoneV_no (hs := hs) (zs := zs) (z := z) (.inl hp))
        have hk0 : k = 0 := by
          by_cases h0 : k = 0
          · exact h0
          · have := (HY2.out (by omega)).1; rw [hp] at this; cases this
        obtain rfl : m = 0 := by omega
        subst hk0
        go_wp2_with fail
        refine (s_PoolValid a n cap hs _ HX.out hn (HI.out.below HG.out)).mono ?_; rintro e w1 ⟨rfl, b1⟩
        have HO1 := Lib.hid (row_below HO.out b1)
        have HG1 := Lib.hid (Below.step HG.out b1 hzs)
        clear b1
        rw [hp]
        go_wp2_with fail
        go_ret
        exact ret_noRow2 _ _ _ _ _ HR.out _ _ HO1.out HG1.out
      · by_cases hne : n' = n
        · have HZ0 : Hid (ZOk hs n n') := Lib.hid ⟨hp, hne⟩
          have hnb : ((n' : Int) == (n : Int)) = true := beq_iff_eq.2 (by omega)
          have hlt' : k < n' := by omega
          clear hne
          go_wp2_with fail
          refine (s_PoolValid a n cap hs _ HX.out hn (HI.out.below HG.out)).mono ?_; rintro e w1 ⟨rfl, b1⟩
          have HO1 := Lib.hid (row_below HO.out b1)
          have HG1 := Lib.hid (Below.step HG.out b1 hzs)
          have z1 := HG1.out.size
          clear b1 HO HG
          rw [hp]
          obtain ⟨b, off, rfl, hb, hc⟩ := (HI.out.below HG1.out).at HX.out hlt
          obtain ⟨c0, c1, c2⟩ := hc k hlt
          rcases HJ.out.below HG1.out with h0 | ⟨b2, off2, ha2, hb2, hc2⟩
          · have := HY.out; rw [h0] at this; simp at this; omega
          have d0 := hc2 k (by have := HY.out; omega)
          subst ha2
          clear hc hc2
          have hg0 : hs.getD k (0, 0, 0) = ((hs.getD k (0, 0, 0)).1, (hs.getD k (0, 0, 0)).2.1, (hs.getD k (0, 0, 0)).2.2) := rfl
          have HZ := Lib.hid (fun hz => zone_in (hs := hs) (zs := zs) (z := z) (k := k) hz hg0)
          have HZ2 := Lib.hid (fun hz => zone_out (hs := hs) (zs := zs) (z := z) (k := k) hz)
          clear hg0
          generalize (hs.getD k (0, 0, 0)).1 = N at *
          generalize (hs.getD k (0, 0, 0)).2.1 = W at *
          generalize (hs.getD k (0, 0, 0)).2.2 = S at *
          generalize zs.getD k 0 = q at *
          by_cases hq : q = z
          · subst hq
            obtain ⟨e1, e2⟩ := HZ.out rfl
            have HE := Lib.hid (And.intro e1 e2)
            clear e1 e2 HZ HZ2
            go_wp2_with (at_builtin; refine wpl_app _ rfl elemHost (.tmp 33) (.tmp 38) rfl w.heap.size _ _ _ rfl (HO1.out.alloc _) _ 1 1 [.int .i64 N, .int .i64 W, .int .i64 S] rfl rfl (news_of (Box.new2 _ 76 [_, _, _] _ (by simp))) (one3 _ _ _) (by decide) ?c1 ?c2 (m + 1) rfl _ rfl ?c4)
            case c1 => omega
            case c2 => simp; omega
            case c4 =>
              intro b' cap'' w5 hown hgrow hat hlt5
              have HG5 := Lib.hid ((HG1.out.alloc z1 (.cells #[.int .i64 N, .int .i64 W, .int .i64 S] 76)).grown hgrow (by simp; omega) (fun g hg => (HO1.out.lt g hg).1))
              have HO5 := Lib.hid hown
              clear hown hgrow hat
              go_wp2
              go_roundw
              case rel =>
                refine ⟨k + 1, m + 1, b', cap'', by omega, by go_num, rfl, ?_, HG5.out, by omega, Lib.hid (by rw [HE.out.2, HM.out]), Lib.hid fun _ => HZ0.out⟩
                rw [HE.out.1]
                exact HO5.out
              case measure => simp [intOf]; omega
          · have hqb : (q == z) = false := beq_eq_false_iff_ne.2 hq
            have HE := Lib.hid (HZ2.out hq)
            clear HZ HZ2
            go_wp2
            go_roundw
            case rel =>
              refine ⟨k + 1, m, bo, c, by omega, by go_num, rfl, ?_, HG1.out, by omega, Lib.hid (by rw [HE.out, HM.out]), Lib.hid fun _ => HZ0.out⟩
              rw [HE.out]
              exact HO1.out
            case measure => simp [intOf]; omega
        · have HR := Lib.hid (zoneV_no (hs := hs) (zs := zs) (z := z) (.inr (by rw [HX.out, HY.out]; exact hne)))
          have hk0 : k = 0 := by
            by_cases h0 : k = 0
            · exact h0
            · exact absurd (HY2.out (by omega)).2 hne
          obtain rfl : m = 0 := by omega
          subst hk0
          have hnb : ((n' : Int) == (n : Int)) = false := beq_eq_false_iff_ne.2 (by omega)
          clear hne
          go_wp2_with fail
          refine (s_PoolValid a n cap hs _ HX.out hn (HI.out.below HG.out)).mono ?_; rintro e w1 ⟨rfl, b1⟩
          have HO1 := Lib.hid (row_below HO.out b1)
          have HG1 := Lib.hid (Below.step HG.out b1 hzs)
          clear b1
          rw [hp]
          go_wp2_with fail
          go_ret
          exact ret_noRow2 _ _ _ _ _ HR.out _ _ HO1.out HG1.out
    · obtain rfl : k = n := by omega
      have hr : zoneV hs zs z = zoneTo hs zs z k := by
        by_cases h0 : 0 < k
        · obtain ⟨h1, h2⟩ := HY2.out h0
          rw [zoneV_yes h1 (by rw [HX.out, HY.out]; exact h2), HX.out]
        · have hk0 : k = 0 := by omega
          have : hs = [] := List.eq_nil_of_length_eq_zero (by rw [HX.out, hk0])
          subst this
          rw [hk0]
          simp [zoneV, zoneTo]
      have HR := Lib.hid hr
      clear hr
      go_wp2
      go_ret
      have hm := HM.out
      rw [HR.out, ← hm]
      exact ⟨_, c, rfl, HO.out, below_grown HG.out⟩
end Go.Proofs.Ytdpmlkigmadajaa
