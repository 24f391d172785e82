/- Contract of the program's up: the hosts that are up. No condition but lists of at most 2^20 hosts. -/
import Derived.Test.YtdkdfehlmphikaaZone
namespace Go.Proofs.Ytdkdfehlmphikaa
open Go.RowKit
/-- The hosts that are up among the first k. -/
def upTo (hs : List H3) : Nat → List H3
  | 0 => []
  | k + 1 => upTo hs k ++ if (hs.getD k (0, 0, 0)).2.2 = 1 then [hs.getD k (0, 0, 0)] else []
def upV (hs : List H3) : List H3 := upTo hs hs.length
theorem upTo_len (hs : List H3) : ∀ k, (upTo hs k).length ≤ k
  | 0 => Nat.le_refl _
  | k + 1 => by
    have := upTo_len hs k
    simp only [upTo, List.length_append]
    split <;> simp <;> omega
theorem up_in {hs : List H3} {k : Nat} {N W S : Int} (h : (hs.getD k (0, 0, 0)) = (N, W, S)) (hz : S = 1) : hcells (upTo hs (k + 1)) = hcells (upTo hs k) ++ [.int .i64 N, .int .i64 W, .int .i64 S] ∧ (upTo hs (k + 1)).length = (upTo hs k).length + 1 := by
  have e : upTo hs (k + 1) = upTo hs k ++ [hs.getD k (0, 0, 0)] := by rw [upTo, if_pos (by rw [h]; exact hz)]
  rw [e, hcells_snoc, h]
  exact ⟨rfl, by simp⟩
theorem up_out {hs : List H3} {k : Nat} {N W S : Int} (h : (hs.getD k (0, 0, 0)) = (N, W, S)) (hz : S ≠ 1) : upTo hs (k + 1) = upTo hs k := by
  rw [upTo, if_neg (by rw [h]; exact hz), List.append_nil]
set_option maxHeartbeats 2000000 in
theorem c_up (a : Option Addr) (n cap : Nat) (hs : List H3) (w : World) (hxs : hs.length = n) (hn : n ≤ 1048576) (h : Hosts w a hs) :
    Calls Try.prog 107 #[.slice a n cap] w (RetRow w 97 3 (upV hs).length (hcells (upV hs))) := by
  have HX := Lib.hid hxs
  have HI := Lib.hid h
  clear h hxs
  go_enter Try.func107, Try.ntmps107
  go_wp2
  go_loopw [3, 8] (fun v i wr => ∃ (k m : Nat) (ao : Option Addr) (c : Nat), k ≤ n ∧ i = .int .i64 k ∧ v = .slice ao m c ∧ wr.ownsRow w.heap.size 97 3 (.slice ao m c) m (hcells (upTo hs k)) ∧ Below w.heap.size w wr ∧ m ≤ k ∧ Hid (m = (upTo hs k).length)) (fun _ i _ => n - (intOf i).toNat)
  case atStart => exact ⟨0, 0, none, 0, Nat.zero_le _, rfl, rfl, row_nil _ _ _ _, Below.refl _ _, Nat.le_refl _, Lib.hid rfl⟩
  case round =>
    obtain ⟨k, m, ao, c, hk, rfl, rfl, hown, hgr, hmk, HM⟩ := hrel
    have HO := Lib.hid hown
    have HG := Lib.hid hgr
    have hzs := hgr.size
    clear hown hgr
    by_cases hlt : k < n
    · obtain ⟨b, off, rfl, hb, hc⟩ := (HI.out.below HG.out).at HX.out hlt
      obtain ⟨c0, c1, c2⟩ := hc k hlt
      clear hc
      have hg0 : hs.getD k (0, 0, 0) = ((hs.getD k (0, 0, 0)).1, (hs.getD k (0, 0, 0)).2.1, (hs.getD k (0, 0, 0)).2.2) := rfl
      have HZ := Lib.hid (fun hz => up_in (hs := hs) (k := k) hg0 hz)
      have HZ2 := Lib.hid (fun hz => up_out (hs := hs) (k := k) hg0 hz)
      clear hg0
      generalize (hs.getD k (0, 0, 0)).1 = N at *
      generalize (hs.getD k (0, 0, 0)).2.1 = W at *
      generalize (hs.getD k (0, 0, 0)).2.2 = S at *
      by_cases hq : S = 1
      · obtain ⟨e1, e2⟩ := HZ.out hq
        have HE := Lib.hid (And.intro e1 e2)
        have hqb : (S == 1) = true := beq_iff_eq.2 hq
        have HO2 := Lib.hid (HO.out.alloc (.cells #[.int .i64 N, .int .i64 W, .int .i64 S] 97))
        have HG2 := Lib.hid (HG.out.alloc hzs (.cells #[.int .i64 N, .int .i64 W, .int .i64 S] 97))
        clear e1 e2 HZ HZ2 hq
        go_wp2_with (at_builtin; refine wpl_app _ rfl elemHost (.tmp 15) (.tmp 17) rfl w.heap.size _ _ _ rfl (HO2.out.alloc _) _ 1 1 [.int .i64 N, .int .i64 W, .int .i64 S] rfl rfl (news_of (Box.new2 _ 97 [_, _, _] _ (by simp))) (one3 _ _ _) (by decide) ?c1 ?c2 (m + 1) rfl _ rfl ?c4)
        case c1 => omega
        case c2 => simp; omega
        case c4 =>
          intro b' cap'' w5 hown hgrow hat hlt5
          have HG5 := Lib.hid ((HG2.out.alloc (by simp; omega) (.cells #[.int .i64 N, .int .i64 W, .int .i64 S] 97)).grown hgrow (by simp; omega) (fun g hg => (HO2.out.lt g hg).1))
          have HO5 := Lib.hid hown
          clear hown hgrow hat
          go_wp2
          go_roundw
          case rel =>
            refine ⟨k + 1, m + 1, some ⟨b', 0, none⟩, cap'', by omega, by go_num, rfl, ?_, HG5.out, by omega, Lib.hid (by rw [HE.out.2, HM.out])⟩
            rw [HE.out.1]
            exact HO5.out
          case measure => simp [intOf]; omega
      · have hqb : (S == 1) = false := beq_eq_false_iff_ne.2 hq
        have HE := Lib.hid (HZ2.out hq)
        clear HZ HZ2
        go_wp2
        go_roundw
        case rel =>
          refine ⟨k + 1, m, ao, c, by omega, by go_num, rfl, ?_, HG.out.alloc hzs _, by omega, Lib.hid (by rw [HE.out, HM.out])⟩
          rw [HE.out]
          exact HO.out.alloc _
        case measure => simp [intOf]; omega
    · obtain rfl : k = n := by omega
      go_wp2
      go_ret
      have hx := HX.out
      have hm := HM.out
      rw [upV, hx, ← hm]
      exact ⟨ao, c, rfl, HO.out, below_grown HG.out⟩
end Go.Proofs.Ytdkdfehlmphikaa
