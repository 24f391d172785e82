/- Contracts of HistJoin, of the program and of the reference. No condition but lists of at most 2^20 numbers. -/
import Derived.Test.YtdgfngcfodccmaaHistB
import Derived.Test.YtdgfngcfodccmaaNew
import Derived.Deep.AppendLies
import Derived.Deep.RegionHeld3
import Derived.StillTail
import Derived.StillTailTactics
namespace Go.Proofs.Ytdgfngcfodccmaa
open Go.RowKit
/-- The sums of the first k counts. -/
def sums (xs ys : List Int) (k : Nat) : List Int := (List.range k).map fun j => xs.getD j 0 + ys.getD j 0
theorem sums_len (xs ys : List Int) (k : Nat) : (sums xs ys k).length = k := by simp [sums]
theorem sums_succ (xs ys : List Int) (k : Nat) : sums xs ys (k + 1) = sums xs ys k ++ [xs.getD k 0 + ys.getD k 0] := by simp [sums, List.range_succ]
def joinOk (xs ys : List Int) : Bool := hv xs && hv ys && hv (sums xs ys 13)
def joinV (xs ys : List Int) : List Int := if joinOk xs ys then sums xs ys 13 else []
/-- A new list and whether it is one; nothing that was there has turned. -/
def RetJoin (w : World) (xs : List Int) (ok : Bool) (e : Ending) (w' : World) : Prop :=
  ∃ (a : Option Addr) (cap : Nat), e = .returned (.tuple #[.slice a xs.length cap, .bool ok]) ∧ w'.ownsRow w.heap.size 3 1 (.slice a xs.length cap) xs.length (xs.map (Value.int .i64)) ∧ w.grownBy w' none
theorem infoIntJ : (Try.prog.info? 3).map (fun i => (i.zero, i.size, i.bytes)) = some (some (.int .i64 0), 1, 8) := by kernel_rfl
theorem ownJ_nil (w : World) (B : Nat) : w.ownsRow B 3 1 (.slice none 0 0) 0 [] := ⟨rfl, .inl ⟨rfl, rfl⟩⟩
theorem newsJ (w : World) (T : TypeId) (v : Value) : ∀ (j : Nat) (u : Value), [v][j]? = some u → (w.alloc (.cells #[v] T)).cell? ((⟨w.heap.size, 0, none⟩ : Addr).add j) = some u := by
  intro j u hu
  match j, hu with
  | 0, hu =>
    have := (Box.new w T [v]).cell 0
    simpa [Addr.add] using this.trans hu
theorem oneJ (k : Int) : ∀ u ∈ [Value.int .i64 k], u.oneCell' = true := by
  intro u hu
  simp only [List.mem_cons, List.not_mem_nil, or_false] at hu
  subst hu
  rfl
theorem gbJ {w w1 w2 : World} {v : Value} {n : Nat} {xs : List Value} (h : w.grownBy w1 none) (ho : w1.ownsRow w.heap.size 3 1 v n xs) (k : w1.grownBy w2 v.ownBlock) : w.grownBy w2 none :=
  ⟨k.os.trans h.os, k.tape.trans h.tape, k.output.trans h.output, Nat.le_trans h.size k.size, fun i hi hr => (k.block i (Nat.lt_of_lt_of_le hi h.size) (by
    intro e
    have := (ho.lt i e.symm).1
    omega)).trans (h.block i hi hr)⟩
theorem gbJ_al {w w' : World} {r : Option Nat} (h : w.grownBy w' r) (o : Obj) : w.grownBy (w'.alloc o) r :=
  ⟨h.os, h.tape, h.output, Nat.le_trans h.size (by simp), fun k hk hr => (Below.heap_alloc w' o k (Nat.lt_of_lt_of_le hk h.size)).trans (h.block k hk hr)⟩
theorem hv_nil : hv [] = false := by decide
set_option maxHeartbeats 1000000 in
theorem c_HistJoin (a : Option Addr) (n cap : Nat) (xs : List Int) (a' : Option Addr) (n' cap' : Nat) (ys : List Int) (w : World) (hxs : xs.length = n) (hn : n ≤ 1048576) (h : Ints w a xs) (hys : ys.length = n') (hn2 : n' ≤ 1048576) (h' : Ints w a' ys) :
    Calls Try.prog 17 #[.slice a n cap, .slice a' n' cap'] w (RetJoin w (joinV xs ys) (joinOk xs ys)) := by
  obtain ⟨i0, hi, hz0, hz1, hz2⟩ := info_parts infoIntJ
  have HI := Lib.hid h
  have HJ := Lib.hid h'
  clear h h'
  cases h1 : hv xs
  · have e1 : joinOk xs ys = false := by simp [joinOk, h1]
    have e2 : joinV xs ys = [] := by simp [joinV, e1]
    rw [e1, e2]
    go_enter Try.func17, Try.ntmps17
    go_wp2_with fail
    refine (c_HistValid a n cap xs w hxs hn HI.out).mono ?_; rintro e w' ⟨rfl, rfl⟩
    rw [h1]
    go_wp2_with fail
    refine bodyPost_ret (v := .tuple #[.slice none 0 0, .bool false]) (by simp [results, Try.results17, go_sem]) rfl ?_
    exact ⟨none, 0, rfl, ownJ_nil _ _, World.grownBy.refl _ _⟩
  cases h2 : hv ys
  · have e1 : joinOk xs ys = false := by simp [joinOk, h2]
    have e2 : joinV xs ys = [] := by simp [joinV, e1]
    rw [e1, e2]
    go_enter Try.func17, Try.ntmps17
    go_wp2_with fail
    refine (c_HistValid a n cap xs w hxs hn HI.out).mono ?_; rintro e w' ⟨rfl, rfl⟩
    rw [h1]
    go_wp2_with fail
    refine (c_HistValid a' n' cap' ys w hys hn2 HJ.out).mono ?_; rintro e w' ⟨rfl, rfl⟩
    rw [h2]
    go_wp2_with fail
    refine bodyPost_ret (v := .tuple #[.slice none 0 0, .bool false]) (by simp [results, Try.results17, go_sem]) rfl ?_
    exact ⟨none, 0, rfl, ownJ_nil _ _, World.grownBy.refl _ _⟩
  have hx13 := hv_len h1
  have hy13 := hv_len h2
  obtain rfl : n = 13 := by omega
  obtain rfl : n' = 13 := by omega
  have HX := Lib.hid (fun k (hk : k < xs.length) => hv_get h1 hk)
  have HY := Lib.hid (fun k (hk : k < ys.length) => hv_get h2 hk)
  rcases HI.out with h0 | ⟨b, off, ha, _, hcell⟩
  · rw [h0] at hx13; simp at hx13
  rcases HJ.out with h0 | ⟨b2, off2, ha2, _, hcell2⟩
  · rw [h0] at hy13; simp at hy13
  have HCa := Lib.hid hcell
  have HCb := Lib.hid hcell2
  subst ha ha2
  clear hcell hcell2
  go_enter Try.func17, Try.ntmps17
  go_wp2_with fail
  refine (c_HistValid _ 13 cap xs w hxs hn HI.out).mono ?_; rintro e w' ⟨rfl, rfl⟩
  rw [h1]
  go_wp2_with fail
  refine (c_HistValid _ 13 cap' ys w hys hn2 HJ.out).mono ?_; rintro e w' ⟨rfl, rfl⟩
  rw [h2]
  go_wp2
  go_loopw [6, 19] (fun v i wr => ∃ (k : Nat) (ao : Option Addr) (c : Nat), k ≤ 13 ∧ i = .int .i64 k ∧ v = .slice ao k c ∧ wr.ownsRow w.heap.size 3 1 (.slice ao k c) k ((sums xs ys k).map (Value.int .i64)) ∧ w.grownBy wr none) (fun _ i _ => 13 - (intOf i).toNat)
  case atStart => exact ⟨0, none, 0, Nat.zero_le _, rfl, rfl, ownJ_nil _ _, World.grownBy.refl _ _⟩
  case round =>
    obtain ⟨k, ao, c, hk, rfl, rfl, hown, hgr⟩ := hrel
    have HO := Lib.hid hown
    have HG := Lib.hid hgr
    have HB := Lib.hid (grown_below hgr)
    have hz := hgr.size
    clear hown hgr
    by_cases hlt : k < 13
    · have c1 : wr.cell? ⟨b, off + k, none⟩ = some (.int .i64 (xs.getD k 0)) := by
        rcases (HI.out.below HB.out) with h0 | ⟨_, _, he, _, hc⟩
        · rw [h0] at hx13; simp at hx13
        · injection he with he; injection he with e1 e2; subst e1 e2; exact hc k (by omega)
      have c2 : wr.cell? ⟨b2, off2 + k, none⟩ = some (.int .i64 (ys.getD k 0)) := by
        rcases (HJ.out.below HB.out) with h0 | ⟨_, _, he, _, hc⟩
        · rw [h0] at hy13; simp at hy13
        · injection he with he; injection he with e1 e2; subst e1 e2; exact hc k (by omega)
      obtain ⟨x1, x2⟩ := HX.out k (by omega)
      obtain ⟨y1, y2⟩ := HY.out k (by omega)
      have HS := Lib.hid (sums_succ xs ys k)
      generalize xs.getD k 0 = x at *
      generalize ys.getD k 0 = y at *
      go_wp2_with (at_builtin; refine wpList_append_lies _ rfl (.tmp 24) (.tmp 31) 32 rfl w.heap.size 3 i0 (.int .i64 0) 1 8 Try.underlying32 hi hz0 hz1 hz2 rfl (by decide) _ _ _ rfl (HO.out.alloc _) _ 1 1 [.int .i64 (x + y)] rfl rfl (newsJ _ _ _) (oneJ _) (by decide) ?c1 ?c2 ?c3 _ rfl ?c4)
      case c1 => unfold maxLen; omega
      case c2 => omega
      case c3 => simp; omega
      case c4 =>
        intro b' cap'' w4 hown hgrow hat hlt4
        have HG4 := Lib.hid (gbJ (gbJ_al HG.out _) (HO.out.alloc _) hgrow)
        have HO4 := Lib.hid hown
        clear hown hgrow hat
        go_wp2
        go_roundw
        case rel =>
          refine ⟨k + 1, some ⟨b', 0, none⟩, cap'', by omega, by go_num, rfl, ?_, HG4.out⟩
          have := HO4.out
          rw [HS.out, List.map_append]
          exact this
        case measure => simp [intOf]; omega
    · obtain rfl : k = 13 := by omega
      have HI4 := Lib.hid (own_ints HO.out)
      cases h3 : hv (sums xs ys 13)
      · have e1 : joinOk xs ys = false := by simp [joinOk, h3]
        have e2 : joinV xs ys = [] := by simp [joinV, e1]
        have HE := Lib.hid (And.intro e1 e2)
        clear e1 e2
        go_wp2_with fail
        refine (c_HistValid ao 13 c (sums xs ys 13) wr (sums_len _ _ _) (by omega) HI4.out.1).mono ?_; rintro e w' ⟨rfl, rfl⟩
        rw [h3]
        go_wp2_with fail
        refine bodyPost_ret (v := .tuple #[.slice none 0 0, .bool false]) (by simp [results, Try.results17, go_sem]) rfl ?_
        rw [HE.out.1, HE.out.2]
        exact ⟨none, 0, rfl, ownJ_nil _ _, HG.out⟩
      · have e1 : joinOk xs ys = true := by simp [joinOk, h1, h2, h3]
        have e2 : joinV xs ys = sums xs ys 13 := by simp [joinV, e1]
        have HE := Lib.hid (And.intro e1 e2)
        clear e1 e2
        go_wp2_with fail
        refine (c_HistValid ao 13 c (sums xs ys 13) wr (sums_len _ _ _) (by omega) HI4.out.1).mono ?_; rintro e w' ⟨rfl, rfl⟩
        rw [h3]
        go_wp2_with fail
        refine bodyPost_ret (v := .tuple #[.slice ao 13 c, .bool true]) (by simp [results, Try.results17, go_sem]) rfl ?_
        have := HO.out
        rw [HE.out.1, HE.out.2]
        refine ⟨ao, c, by rw [sums_len], ?_, HG.out⟩
        rw [sums_len]
        exact this
end Go.Proofs.Ytdgfngcfodccmaa
