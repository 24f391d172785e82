/- Contract of the program's BreakerRun. No condition but a list of at most 2^20 numbers. -/
import Derived.Test.YtdpmlkigmadajaaBool
import Derived.Test.YtdpmlkigmadajaaBrkS
namespace Go.Proofs.Ytdpmlkigmadajaa
open Go.RowKit
/-- The breaker behind so many calls that failed. -/
def bst (xs : List Int) (most pause : Int) : Nat → Int × Int
  | 0 => (0, 0)
  | k + 1 => (stepF (bst xs most pause k).1 (bst xs most pause k).2 (xs.getD k 0) false most pause, stepU (bst xs most pause k).1 (bst xs most pause k).2 (xs.getD k 0) false most pause)
def bout (xs : List Int) (most pause : Int) (k : Nat) : List Bool := (List.range k).map fun j => allowsB (bst xs most pause j).1 (bst xs most pause j).2 (xs.getD j 0)
def tmOk (xs : List Int) (k : Nat) : Bool := inB (xs.getD k 0) 0 100000 && (decide (k = 0) || decide (xs.getD (k - 1) 0 ≤ xs.getD k 0))
def runOk (xs : List Int) (most pause : Int) : Bool := decide (xs.length ≤ 40) && inB most 1 100 && inB pause 1 100000 && (List.range xs.length).all (tmOk xs)
def runB (xs : List Int) (most pause : Int) : List Bool := if runOk xs most pause then bout xs most pause xs.length else []
theorem bout_len (xs : List Int) (most pause : Int) (k : Nat) : (bout xs most pause k).length = k := by simp [bout]
theorem bout_succ (xs : List Int) (most pause : Int) (k : Nat) : bout xs most pause (k + 1) = bout xs most pause k ++ [allowsB (bst xs most pause k).1 (bst xs most pause k).2 (xs.getD k 0)] := by simp [bout, List.range_succ]
theorem runB_no {xs : List Int} {most pause : Int} (h : 40 < xs.length ∨ inB most 1 100 = false ∨ inB pause 1 100000 = false ∨ ∃ k, k < xs.length ∧ tmOk xs k = false) : runB xs most pause = [] := by
  have : runOk xs most pause = false := by
    rw [← Bool.not_eq_true]
    intro h'
    simp only [runOk, Bool.and_eq_true, decide_eq_true_eq, List.all_eq_true, List.mem_range] at h'
    obtain ⟨⟨⟨h1, h2⟩, h3⟩, h4⟩ := h'
    rcases h with h | h | h | ⟨k, hk, h⟩
    · omega
    · rw [h2] at h; cases h
    · rw [h3] at h; cases h
    · rw [h4 k hk] at h; cases h
  simp [runB, this]
theorem runB_yes {xs : List Int} {most pause : Int} (h1 : xs.length ≤ 40) (h2 : inB most 1 100 = true) (h3 : inB pause 1 100000 = true) (h4 : ∀ j, j < xs.length → tmOk xs j = true) : runB xs most pause = bout xs most pause xs.length := by
  have : runOk xs most pause = true := by
    simp only [runOk, Bool.and_eq_true, decide_eq_true_eq, List.all_eq_true, List.mem_range]
    exact ⟨⟨⟨h1, h2⟩, h3⟩, h4⟩
  simp [runB, this]
theorem elemBool : Elem 39 4 1 1 := elem_mk (.bool false) Try.underlying39 (by kernel_rfl) rfl (by decide) (by decide)
theorem bools_snoc (bs : List Bool) (b : Bool) : bools (bs ++ [b]) = bools bs ++ [.bool b] := by simp [bools]
theorem ret_nilB (w w' : World) (xs : List Bool) (h : xs = []) (hb : Below w.heap.size w w') : RetRow w 4 1 xs.length (bools xs) (.returned (.slice none 0 0)) w' := by
  subst h; exact ⟨none, 0, rfl, row_nil _ _ _ _, below_grown hb⟩
theorem Box.grown {w w' : World} {g T : Nat} {vs : List Value} {r : Option Nat} (h : Box w g T vs) (hg : w.grownBy w' r) (hne : some g ≠ r) : Box w' g T vs := (hg.block g h.lt hne).trans h
/-- A store into another block leaves an owned row. -/
theorem row_set {w : World} {base n : Nat} {e : TypeId} {size : Nat} {v : Value} {vs : List Value} {p : Addr} (h : w.ownsRow base e size v n vs) (hp : p.block < base) (u : Value) : (w.setCell p u).ownsRow base e size v n vs :=
  row_kept (r := some p.block) h ⟨rfl, rfl, rfl, by simp, fun k _ hk => heap_setCell_other w p k u (fun e => hk (by rw [e]))⟩ fun k hk e => by
    have := (h.lt k hk).1
    injection e with e
    omega
set_option maxHeartbeats 1000000 in
theorem c_BreakerRun (a : Option Addr) (n cap : Nat) (xs : List Int) (most pause : Int) (w : World) (hxs : xs.length = n) (hn : n ≤ 1048576) (h : Ints w a xs) :
    Calls Try.prog 23 #[.slice a n cap, .int .i64 most, .int .i64 pause] w (RetRow w 4 1 (runB xs most pause).length (bools (runB xs most pause))) := by
  have HX := Lib.hid hxs
  have HI := Lib.hid h
  clear h hxs
  by_cases h40 : 40 < n
  · have h40' : (40 : Int) < (n : Int) := by omega
    have HR := Lib.hid (runB_no (xs := xs) (most := most) (pause := pause) (.inl (by rw [HX.out]; exact h40)))
    go_enter Try.func23, Try.ntmps23
    go_wp2_with (go_at_call 58; refine (c_in _ _ _ _).mono ?_; rintro e w' ⟨rfl, rfl⟩)
    go_ret
    exact ret_nilB _ _ _ HR.out (Below.refl _ _)
  have h40' : (n : Int) ≤ 40 := by omega
  cases hm : inB most 1 100
  · have HR := Lib.hid (runB_no (xs := xs) (most := most) (pause := pause) (.inr (.inl hm)))
    go_enter Try.func23, Try.ntmps23
    go_wp2_with (go_at_call 58; refine (c_in _ _ _ _).mono ?_; rintro e w' ⟨rfl, rfl⟩)
    go_ret
    exact ret_nilB _ _ _ HR.out (Below.refl _ _)
  cases hp : inB pause 1 100000
  · have HR := Lib.hid (runB_no (xs := xs) (most := most) (pause := pause) (.inr (.inr (.inl hp))))
    go_enter Try.func23, Try.ntmps23
    go_wp2_with (go_at_call 58; refine (c_in _ _ _ _).mono ?_; rintro e w' ⟨rfl, rfl⟩)
    go_ret
    exact ret_nilB _ _ _ HR.out (Below.refl _ _)
  have HM := Lib.hid (And.intro hm hp)
  go_enter Try.func23, Try.ntmps23
  go_wp2_with (go_at_call 58; refine (c_in _ _ _ _).mono ?_; rintro e w' ⟨rfl, rfl⟩)
  clear hm hp
  go_loopw [8, 26] (fun v i wr => ∃ (k : Nat) (ao : Option Addr) (c : Nat), k ≤ n ∧ i = .int .i64 k ∧ v = .slice ao k c ∧ wr.ownsRow (w.heap.size + 1) 4 1 (.slice ao k c) k (bools (bout xs most pause k)) ∧
    Box wr w.heap.size 42 [.int .i64 (bst xs most pause k).1, .int .i64 (bst xs most pause k).2] ∧ Below w.heap.size w wr ∧ Hid (∀ j, j < k → tmOk xs j = true)) (fun _ i _ => n - (intOf i).toNat)
  case atStart => exact ⟨0, none, 0, Nat.zero_le _, rfl, rfl, row_nil _ _ _ _, Box.new w 42 [.int .i64 0, .int .i64 0], by go_grown, Lib.hid fun j hj => by omega⟩
  case round =>
    obtain ⟨k, ao, c, hk, rfl, rfl, hown, hbox, hgr, HV⟩ := hrel
    have HO := Lib.hid hown
    have HB := Lib.hid hbox
    have HG := Lib.hid hgr
    have hz := hgr.size
    have hbl := hbox.lt
    clear hown hbox hgr
    have HBO := Lib.hid (bout_succ xs most pause k)
    have HBS : Hid (bst xs most pause (k + 1) = (stepF (bst xs most pause k).1 (bst xs most pause k).2 (xs.getD k 0) false most pause, stepU (bst xs most pause k).1 (bst xs most pause k).2 (xs.getD k 0) false most pause)) := Lib.hid rfl
    by_cases hlt : k < n
    · rcases HI.out with h0 | ⟨b, off, ha, hb, hcell⟩
      · have := HX.out; rw [h0] at this; simp at this; omega
      have hc1 := (HG.out.cell (p := ⟨b, off + k, none⟩) hb).trans (hcell k (by have := HX.out; omega))
      have hc0 : 0 < k → wr.cell? ⟨b, off + (k - 1), none⟩ = some (.int .i64 (xs.getD (k - 1) 0)) := fun _ => (HG.out.cell (p := ⟨b, off + (k - 1), none⟩) hb).trans (hcell (k - 1) (by have := HX.out; omega))
      have HC0 := Lib.hid hc0
      subst ha
      clear hcell hc0
      have HT : Hid (tmOk xs k = (inB (xs.getD k 0) 0 100000 && (decide (k = 0) || decide (xs.getD (k - 1) 0 ≤ xs.getD k 0)))) := Lib.hid rfl
      generalize (bst xs most pause k).1 = f at *
      generalize (bst xs most pause k).2 = u at *
      generalize xs.getD k 0 = x at *
      cases hv : inB x 0 100000
      · have HR := Lib.hid (runB_no (xs := xs) (most := most) (pause := pause) (.inr (.inr (.inr ⟨k, by have := HX.out; omega, by rw [HT.out, hv]; rfl⟩))))
        go_wp2_with (go_at_call 59; refine (c_isTime _ _).mono ?_; rintro e w' ⟨rfl, rfl⟩)
        go_ret
        exact ret_nilB _ _ _ HR.out HG.out
      · by_cases hk0 : k = 0
        · have HT2 : Hid (tmOk xs k = true) := Lib.hid (by rw [HT.out, hv, decide_eq_true hk0]; rfl)
          have hk1 : ¬ (0 : Int) < (k : Int) := by omega
          clear hk0
          have r0 := HB.out.cell 0
          have r1 := HB.out.cell 1
          simp only [List.getElem?_cons_zero, List.getElem?_cons_succ] at r0 r1
          go_wp2_with (go_at_call 59; refine (c_isTime _ _).mono ?_; rintro e w' ⟨rfl, rfl⟩)
          refine (c_BreakerAllows f u x _).mono ?_; rintro e w4 ⟨rfl, hb4⟩
          have HO4 := Lib.hid (row_below HO.out hb4)
          have HB4 := Lib.hid (HB.out.keep hb4)
          have HG4 := Lib.hid (Below.step HG.out hb4 hz)
          have z4 := hb4.size
          clear hb4 r0 r1
          generalize allowsB f u x = A at *
          go_wp2_with (at_builtin; refine wpl_app _ rfl elemBool (.tmp 47) (.tmp 51) rfl (w.heap.size + 1) _ _ _ rfl (HO4.out.alloc _) _ 1 1 [.bool A] rfl rfl (news_of (Box.new _ _ [_])) (one1 rfl) (by decide) ?c1 ?c2 (k + 1) rfl _ rfl ?c4)
          case c1 => omega
          case c2 => simp; omega
          case c4 =>
            intro b' cap' w5 hown hgrow hat hlt5
            have HO5 := Lib.hid hown
            have HB5 := Lib.hid ((HB4.out.alloc (.cells #[.bool A] 4)).grown hgrow (fun e => by have := (HO4.out.lt _ e.symm).1; omega))
            have HG5 := Lib.hid ((HG4.out.alloc (by omega) (.cells #[.bool A] 4)).grown hgrow (by simp; omega) (fun g hg => by have := (HO4.out.lt g hg).1; omega))
            have z5 := HG5.out.size
            clear hown hgrow hat
            have r0 := HB5.out.cell 0
            have r1 := HB5.out.cell 1
            simp only [List.getElem?_cons_zero, List.getElem?_cons_succ] at r0 r1
            go_wp2_with fail
            refine (c_BreakerStep f u x most pause false _).mono ?_; rintro e w6 ⟨rfl, hb6⟩
            have HO6 := Lib.hid (row_below HO5.out hb6)
            have HB6 := Lib.hid (HB5.out.keep hb6)
            have HG6 := Lib.hid (Below.step HG5.out hb6 z5)
            clear hb6 r0 r1
            have r0 := HB6.out.cell 0
            have r1 := HB6.out.cell 1
            have r2 := HB6.out.frozen 0
            have r3 := HB6.out.frozen 1
            simp only [List.getElem?_cons_zero, List.getElem?_cons_succ] at r0 r1
            generalize hF' : stepF f u x false most pause = f' at *
            generalize hU' : stepU f u x false most pause = u' at *
            clear hF' hU'
            go_wp2
            go_roundw
            case rel =>
              refine ⟨k + 1, some ⟨b', 0, none⟩, cap', by omega, by go_num, rfl, ?_, ?_, (HG6.out.setCell (by simp) _).setCell (by simp) _, Lib.hid fun j hj => ?_⟩
              · rw [HBO.out, bools_snoc]
                exact row_set (row_set HO6.out (by simp) _) (by simp) _
              · rw [HBS.out]
                exact (HB6.out.set 0 (.int .i64 f')).set 1 (.int .i64 u')
              · by_cases hjk : j = k
                · subst hjk; exact HT2.out
                · exact HV.out j (by omega)
            case measure => simp [intOf]; omega
        · have hk1 : (0 : Int) < (k : Int) := by omega
          have hcy := HC0.out (by omega)
          have hi1 : ((k : Int) - 1) = ((k - 1 : Nat) : Int) := by omega
          have HI1 := Lib.hid hi1
          generalize xs.getD (k - 1) 0 = y at *
          by_cases hlt2 : x < y
          · have HR := Lib.hid (runB_no (xs := xs) (most := most) (pause := pause) (.inr (.inr (.inr ⟨k, by have := HX.out; omega, by rw [HT.out, hv, decide_eq_false hk0, decide_eq_false (by omega)]; rfl⟩))))
            go_wp2_with (go_at_call 59; refine (c_isTime _ _).mono ?_; rintro e w' ⟨rfl, rfl⟩)
            go_ret
            exact ret_nilB _ _ _ HR.out HG.out
          · have HT2 : Hid (tmOk xs k = true) := Lib.hid (by rw [HT.out, hv, decide_eq_true (show y ≤ x by omega)]; simp)
            clear hi1
            have r0 := HB.out.cell 0
            have r1 := HB.out.cell 1
            simp only [List.getElem?_cons_zero, List.getElem?_cons_succ] at r0 r1
            go_wp2_with (go_at_call 59; refine (c_isTime _ _).mono ?_; rintro e w' ⟨rfl, rfl⟩)
            refine (c_BreakerAllows f u x _).mono ?_; rintro e w4 ⟨rfl, hb4⟩
            have HO4 := Lib.hid (row_below HO.out hb4)
            have HB4 := Lib.hid (HB.out.keep hb4)
            have HG4 := Lib.hid (Below.step HG.out hb4 hz)
            have z4 := hb4.size
            clear hb4 r0 r1
            generalize allowsB f u x = A at *
            go_wp2_with (at_builtin; refine wpl_app _ rfl elemBool (.tmp 47) (.tmp 51) rfl (w.heap.size + 1) _ _ _ rfl (HO4.out.alloc _) _ 1 1 [.bool A] rfl rfl (news_of (Box.new _ _ [_])) (one1 rfl) (by decide) ?c1 ?c2 (k + 1) rfl _ rfl ?c4)
            case c1 => omega
            case c2 => simp; omega
            case c4 =>
              intro b' cap' w5 hown hgrow hat hlt5
              have HO5 := Lib.hid hown
              have HB5 := Lib.hid ((HB4.out.alloc (.cells #[.bool A] 4)).grown hgrow (fun e => by have := (HO4.out.lt _ e.symm).1; omega))
              have HG5 := Lib.hid ((HG4.out.alloc (by omega) (.cells #[.bool A] 4)).grown hgrow (by simp; omega) (fun g hg => by have := (HO4.out.lt g hg).1; omega))
              have z5 := HG5.out.size
              clear hown hgrow hat
              have r0 := HB5.out.cell 0
              have r1 := HB5.out.cell 1
              simp only [List.getElem?_cons_zero, List.getElem?_cons_succ] at r0 r1
              go_wp2_with fail
              refine (c_BreakerStep f u x most pause false _).mono ?_; rintro e w6 ⟨rfl, hb6⟩
              have HO6 := Lib.hid (row_below HO5.out hb6)
              have HB6 := Lib.hid (HB5.out.keep hb6)
              have HG6 := Lib.hid (Below.step HG5.out hb6 z5)
              clear hb6 r0 r1
              have r0 := HB6.out.cell 0
              have r1 := HB6.out.cell 1
              have r2 := HB6.out.frozen 0
              have r3 := HB6.out.frozen 1
              simp only [List.getElem?_cons_zero, List.getElem?_cons_succ] at r0 r1
              generalize hF' : stepF f u x false most pause = f' at *
              generalize hU' : stepU f u x false most pause = u' at *
              clear hF' hU'
              go_wp2
              go_roundw
              case rel =>
                refine ⟨k + 1, some ⟨b', 0, none⟩, cap', by omega, by go_num, rfl, ?_, ?_, (HG6.out.setCell (by simp) _).setCell (by simp) _, Lib.hid fun j hj => ?_⟩
                · rw [HBO.out, bools_snoc]
                  exact row_set (row_set HO6.out (by simp) _) (by simp) _
                · rw [HBS.out]
                  exact (HB6.out.set 0 (.int .i64 f')).set 1 (.int .i64 u')
                · by_cases hjk : j = k
                  · subst hjk; exact HT2.out
                  · exact HV.out j (by omega)
              case measure => simp [intOf]; omega
    · obtain rfl : k = n := by omega
      have HR := Lib.hid (runB_yes (xs := xs) (most := most) (pause := pause) (by have := HX.out; omega) HM.out.1 HM.out.2 (by rw [HX.out]; exact HV.out))
      go_wp2
      go_ret
      have hx := HX.out
      subst hx
      rw [HR.out, bout_len]
      exact ⟨_, _, rfl, HO.out.mono (by omega), below_grown HG.out⟩
end Go.Proofs.Ytdpmlkigmadajaa
