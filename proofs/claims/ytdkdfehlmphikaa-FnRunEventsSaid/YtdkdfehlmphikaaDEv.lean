/- The draws of events and of the law RunEvents. No condition. -/
import Derived.Test.YtdkdfehlmphikaaDFw
import Derived.Test.YtdkdfehlmphikaaEvl
namespace Go.Proofs.Ytdkdfehlmphikaa
open Go.RowKit
variable {D : Nat}
/-- Events are drawn. -/
def RetEv (D : Nat) (w : World) (g p m : Nat) (e : Ending) (w' : World) : Prop :=
  ∃ (b cap : Nat) (vs : List V6), e = .returned (.slice (some ⟨b, 0, none⟩) vs.length cap) ∧ vs.length ≤ 41 ∧ w'.ownsRow w.heap.size 39 6 (.slice (some ⟨b, 0, none⟩) vs.length cap) vs.length (vCells vs) ∧ (∃ p', p' ≤ p + m ∧ Rd D w' g p') ∧ w.grownBy w' (some g)
theorem vCells_snoc (vs : List V6) (v : V6) : vCells (vs ++ [v]) = vCells vs ++ [.int .i64 v.1, .int .i64 v.2.1, .int .i64 v.2.2.1, .int .i64 v.2.2.2.1, .int .i64 v.2.2.2.2.1, .int .i64 v.2.2.2.2.2] := by
  unfold vCells
  rw [vInts_app, vInts_one, List.map_append]; rfl
theorem one6v (a b c d e f : Int) : ∀ u ∈ [Value.int .i64 a, .int .i64 b, .int .i64 c, .int .i64 d, .int .i64 e, .int .i64 f], u.oneCell' = true := by
  intro u hu
  simp only [List.mem_cons, List.not_mem_nil, or_false] at hu
  rcases hu with rfl | rfl | rfl | rfl | rfl | rfl <;> rfl
theorem vzcells : (Value.agg #[.int .i64 0, .int .i64 0, .int .i64 0, .int .i64 0, .int .i64 0, .int .i64 0]).cells = #[.int .i64 0, .int .i64 0, .int .i64 0, .int .i64 0, .int .i64 0, .int .i64 0] := by simp [go_sem]
theorem vzeros : ∀ m, vCells (List.replicate m v0) = List.replicate (m * 6) (.int .i64 0)
  | 0 => rfl
  | m + 1 => by
    have h : vInts (List.replicate (m + 1) v0) = vI v0 ++ vInts (List.replicate m v0) := rfl
    rw [vCells, h, List.map_append, ← vCells, vzeros m, show (m + 1) * 6 = 6 + m * 6 by omega, ← List.replicate_append_replicate]
    rfl
theorem zeros6 (m : Nat) : (madeCells (Value.agg #[.int .i64 0, .int .i64 0, .int .i64 0, .int .i64 0, .int .i64 0, .int .i64 0]).cells (m * 6)).toList = vCells (List.replicate m v0) := by
  rw [vzcells, vzeros]
  unfold madeCells
  apply List.ext_getElem
  · simp
  · intro i h1 h2
    have h3 : i % 6 = 0 ∨ i % 6 = 1 ∨ i % 6 = 2 ∨ i % 6 = 3 ∨ i % 6 = 4 ∨ i % 6 = 5 := by omega
    rcases h3 with h3 | h3 | h3 | h3 | h3 | h3 <;> simp [h3]
set_option maxRecDepth 100000 in
set_option maxHeartbeats 4000000 in
theorem s_l20Events (g p : Nat) (nn : Int) (w : World) (h : Rd D w g p) (hp : p ≤ 9000) (n1 : -1000 ≤ nn) (n2 : nn ≤ 1000) :
    Calls Try.prog 56 #[.pointer (some ⟨g, 0, none⟩), .int .i64 nn] w (RetEv D w g p 400) := by
  have hglt : g < w.heap.size := h.lt
  have hDg : D ≤ g := h.1
  have HR := Lib.hid h
  clear h
  go_enter Try.func56, Try.ntmps56
  go_wp2_with fail
  refine (c_pick g p 8 _ (HR.out.keep (grownBy_alloc _ _ _)) (by omega) (by omega) (by omega)).mono ?_
  rintro e w1 ⟨x, rfl, x0, x1, _, hr1, hg1⟩
  have x1 := x1 (by omega)
  obtain ⟨j0, rfl⟩ := Int.eq_ofNat_of_zero_le x0
  have HR1 := Lib.hid hr1
  have HG1 := Lib.hid (grownBy_tr (grownBy_alloc w (some g) (.cells #[] 39)) hg1)
  have HO1 := Lib.hid (row_kept (row_emp w _ 39 6 rfl (Nat.le_refl _)) hg1 (fun k hk => by simp [Value.ownBlock] at hk; simp; omega))
  clear hr1 hg1
  go_wp2
  go_loopw [5, 6, 7] (fun v t i wr => ∃ (j q b cap : Nat) (vs : List V6) (at' : Int), v = .slice (some ⟨b, 0, none⟩) vs.length cap ∧ i = .int .i64 j ∧ t = .int .i64 at' ∧ 0 ≤ at' ∧ at' ≤ 30 * (vs.length : Int) ∧ vs.length + j ≤ 7 ∧ q ≤ p + 1 + 50 * vs.length ∧
    wr.ownsRow w.heap.size 39 6 (.slice (some ⟨b, 0, none⟩) vs.length cap) vs.length (vCells vs) ∧ Rd D wr g q ∧ w.grownBy wr (some g)) (fun _ _ i _ => (intOf i).toNat)
  case atStart => exact ⟨j0, p + 1, w.heap.size, 0, [], 0, rfl, rfl, rfl, by omega, by simp, by simp; omega, by simp, HO1.out, HR1.out, HG1.out⟩
  case round =>
    obtain ⟨j, q, b, cap, vs, at', rfl, rfl, rfl, a0, a1, hj, hq, hown, hr2, hgr⟩ := hrel
    have HO := Lib.hid hown
    have HR2 := Lib.hid hr2
    have HG := Lib.hid hgr
    obtain ⟨hbl, hbu⟩ := hown.lt b rfl
    clear hown hgr hr2 HO1 HG1 HR1
    by_cases hlt : 0 < j
    · go_wp2_with fail
      refine (c_pick g q 30 _ HR2.out (by omega) (by omega) (by omega)).mono ?_
      rintro e w3 ⟨x, rfl, y0, y1, _, hr4, hg4⟩
      have y1 := y1 (by omega)
      have HR3 := Lib.hid hr4
      have HG3 := Lib.hid (grownBy_tr HG.out hg4)
      have HO3 := Lib.hid (row_kept HO.out hg4 (fun k hk => by simp [Value.ownBlock] at hk; simp; omega))
      have z3 := HG3.out.size
      clear hr4 hg4
      obtain ⟨A, hA⟩ : ∃ A, at' + x = A := ⟨_, rfl⟩
      have A0 : 0 ≤ A := by omega
      have A1 : A ≤ 30 * (vs.length : Int) + 29 := by omega
      go_wp2_with fail
      clear hA
      refine (s_l20Flow g (q + 1) 0 _ HR3.out (by omega) (by omega) (by omega)).mono ?_
      rintro e w4 ⟨x0, x1, x2, x3, x4, rfl, ⟨p4, hp4, hr5⟩, hg5⟩
      have HR5 := Lib.hid hr5
      have HG5 := Lib.hid (grownBy_tr HG3.out hg5)
      have HO5 := Lib.hid (row_kept HO3.out hg5 (fun k hk => by simp [Value.ownBlock] at hk; simp; omega))
      have z5 := HG5.out.size
      clear hr5 hg5
      go_wp2_with (at_builtin; refine wpl_app _ rfl elemEvent (.tmp 19) (.tmp 24) rfl w.heap.size _ _ _ rfl (HO5.out.alloc _) _ 1 1 [.int .i64 A, .int .i64 x0, .int .i64 x1, .int .i64 x2, .int .i64 x3, .int .i64 x4] rfl rfl (news_of (Box.new _ 39 [_, _, _, _, _, _])) (one6v _ _ _ _ _ _) (by decide) ?c1 ?c2 (vs.length + 1) rfl _ rfl ?c4)
      case c1 => omega
      case c2 => first | omega | (simp; omega)
      case c4 =>
        intro b' cap' w6 hown hgrow hat hlt5
        have HR6 := Lib.hid ((HR5.out.keep (grownBy_alloc _ _ _)).far (b := b) hgrow (by omega) (by omega))
        have HG6 := Lib.hid (gb_own (b := b) (gb_al HG5.out _) hgrow hbl)
        have HO6 := Lib.hid hown
        clear hown hgrow hat
        go_wp2
        go_roundw
        case rel =>
          refine ⟨j - 1, p4, b', cap', vs ++ [(A, x0, x1, x2, x3, x4)], A, by simp, by go_num, rfl, by omega, by simp; omega, by simp; omega, by simp only [List.length_append, List.length_cons, List.length_nil]; omega, ?_, HR6.out, HG6.out⟩
          rw [vCells_snoc]
          simpa using HO6.out
        case measure => simp [intOf]; omega
    · go_wp2_with fail
      refine (c_odd g q nn _ HR2.out (by omega) (by omega) (by omega)).mono ?_
      rintro e w3 ⟨od, rfl, ⟨q2, hq2, hr4⟩, hg4⟩
      have HR3 := Lib.hid hr4
      have HG3 := Lib.hid (grownBy_tr HG.out hg4)
      have HO3 := Lib.hid (row_kept HO.out hg4 (fun k hk => by simp [Value.ownBlock] at hk; simp; omega))
      have z3 := HG3.out.size
      clear hr4 hg4 HR2 HG HO
      cases od
      · go_wp2_with fail
        go_ret
        exact ⟨b, cap, vs, rfl, by omega, HO3.out, ⟨q2, by omega, HR3.out⟩, HG3.out⟩
      · go_wp2_with fail
        refine (c_pick g q2 3 _ HR3.out (by omega) (by omega) (by omega)).mono ?_
        rintro e w4 ⟨x, rfl, y0, y1, _, hr5, hg5⟩
        have y1 := y1 (by omega)
        have HR4 := Lib.hid hr5
        have HG4 := Lib.hid (grownBy_tr HG3.out hg5)
        have HO4 := Lib.hid (row_kept HO3.out hg5 (fun k hk => by simp [Value.ownBlock] at hk; simp; omega))
        have z4 := HG4.out.size
        clear hr5 hg5 HR3 HG3 HO3
        have hx : x = 0 ∨ x = 1 ∨ x = 2 := by omega
        clear y0 y1
        rcases hx with rfl | rfl | rfl
        · go_wp2_with fail
          refine (s_l20Flow g (q2 + 1) 0 _ HR4.out (by omega) (by omega) (by omega)).mono ?_
          rintro e w5 ⟨x0, x1, x2, x3, x4, rfl, ⟨p4, hp4, hr5⟩, hg5⟩
          have HR5 := Lib.hid hr5
          have HG5 := Lib.hid (grownBy_tr HG4.out hg5)
          have HO5 := Lib.hid (row_kept HO4.out hg5 (fun k hk => by simp [Value.ownBlock] at hk; simp; omega))
          have z5 := HG5.out.size
          clear hr5 hg5 HR4 HG4 HO4
          go_wp2_with (
            at_builtin
            refine wpl_app _ rfl elemEvent (.tmp 34) (.tmp 38) rfl w.heap.size _ _ _ rfl (HO5.out.alloc _) _ 1 1 [.int .i64 (-1 : Int), .int .i64 x0, .int .i64 x1, .int .i64 x2, .int .i64 x3, .int .i64 x4] rfl rfl (news_of (Box.new _ 39 [_, _, _, _, _, _])) (one6v _ _ _ _ _ _) (by decide) (by omega) (by simp; omega) (vs.length + 1) rfl _ rfl ?_
            intro b' cap' w7 hown hgrow hat hlt5
            have HR7 := Lib.hid ((HR5.out.keep (grownBy_alloc _ _ _)).far (b := b) hgrow (by omega) (by omega))
            have HG7 := Lib.hid (gb_own (b := b) (gb_al HG5.out _) hgrow hbl)
            have HO7 := Lib.hid hown
            clear hown hgrow hat)
          go_ret
          refine ⟨b', cap', vs ++ [((-1 : Int), x0, x1, x2, x3, x4)], by simp, by simp; omega, ?_, ⟨_, ?_, HR7.out⟩, HG7.out⟩
          · rw [vCells_snoc]
            simpa using HO7.out
          · omega
        · go_wp2_with fail
          refine (s_l20Flow g (q2 + 1) 1 _ HR4.out (by omega) (by omega) (by omega)).mono ?_
          rintro e w5 ⟨x0, x1, x2, x3, x4, rfl, ⟨p4, hp4, hr5⟩, hg5⟩
          have HR5 := Lib.hid hr5
          have HG5 := Lib.hid (grownBy_tr HG4.out hg5)
          have HO5 := Lib.hid (row_kept HO4.out hg5 (fun k hk => by simp [Value.ownBlock] at hk; simp; omega))
          have z5 := HG5.out.size
          clear hr5 hg5 HR4 HG4 HO4
          go_wp2_with (
            at_builtin
            refine wpl_app _ rfl elemEvent (.tmp 42) (.tmp 47) rfl w.heap.size _ _ _ rfl (HO5.out.alloc _) _ 1 1 [.int .i64 at', .int .i64 x0, .int .i64 x1, .int .i64 x2, .int .i64 x3, .int .i64 x4] rfl rfl (news_of (Box.new _ 39 [_, _, _, _, _, _])) (one6v _ _ _ _ _ _) (by decide) (by omega) (by simp; omega) (vs.length + 1) rfl _ rfl ?_
            intro b' cap' w7 hown hgrow hat hlt5
            have HR7 := Lib.hid ((HR5.out.keep (grownBy_alloc _ _ _)).far (b := b) hgrow (by omega) (by omega))
            have HG7 := Lib.hid (gb_own (b := b) (gb_al HG5.out _) hgrow hbl)
            have HO7 := Lib.hid hown
            clear hown hgrow hat)
          go_ret
          refine ⟨b', cap', vs ++ [(at', x0, x1, x2, x3, x4)], by simp, by simp; omega, ?_, ⟨_, ?_, HR7.out⟩, HG7.out⟩
          · rw [vCells_snoc]
            simpa using HO7.out
          · omega
        · obtain ⟨i0, hi, hz0, hz1, hz2⟩ := info_parts zeroEvent
          go_wp2_with (at_make; refine wpList_make_full _ rfl _ _ 24 rfl w.heap.size 39 i0 (.agg #[.int .i64 0, .int .i64 0, .int .i64 0, .int .i64 0, .int .i64 0, .int .i64 0]) 6 Try.underlying24 hi hz0 hz1 .i64 .i64 _ _ 41 rfl rfl rfl rfl ?c1 ?c2 ?c3 ?c4)
          case c1 => rw [hz2]; omega
          case c2 => unfold maxLen; omega
          case c3 => exact z4
          case c4 =>
            intro w9 hown9 hgr9
            have hz9 := zeros6 41
            rw [vzcells] at hz9
            have hz9' : (madeCells #[Value.int .i64 0, .int .i64 0, .int .i64 0, .int .i64 0, .int .i64 0, .int .i64 0] 246).toList = vCells (List.replicate 41 v0) := hz9
            rw [hz9'] at hown9
            clear hz9 hz9'
            have HR9 := Lib.hid (HR4.out.keep hgr9)
            have HG9 := Lib.hid (grownBy_tr HG4.out (grown_any hgr9))
            have HO9 := Lib.hid hown9
            clear hown9 hgr9
            go_wp2
            go_ret
            have hl9 : (List.replicate 41 v0).length = 41 := List.length_replicate ..
            refine ⟨w4.heap.size, 41, List.replicate 41 v0, by rw [hl9]; rfl, by rw [hl9]; omega, by rw [hl9]; exact HO9.out, ⟨q2 + 1, by omega, HR9.out⟩, HG9.out⟩
theorem Evs.of_block {w w' : World} {a : Option Addr} {vs : List V6} (h : Evs w a vs) (hs : w.heap.size ≤ w'.heap.size) (hb : ∀ q, a = some q → w'.heap[q.block]? = w.heap[q.block]?) : Evs w' a vs := by
  rcases h with h | ⟨b', off, ha, hlt, hc⟩
  · exact .inl h
  · exact .inr ⟨b', off, ha, Nat.lt_of_lt_of_le hlt hs, fun i hi => (World.cell?_of_block (a := ⟨b', off + i, none⟩) (hb ⟨b', off, none⟩ ha)).trans (hc i hi)⟩
/-- What the slot of the drawn events holds. -/
def EvP (g : Nat) (v : Value) (w : World) : Prop := ∃ (b cap : Nat) (vs : List V6), v = .slice (some ⟨b, 0, none⟩) vs.length cap ∧ vs.length ≤ 41 ∧ vs.length ≤ cap ∧ b ≠ g ∧ b < w.heap.size ∧ Evs w (some ⟨b, 0, none⟩) vs
theorem EvP.stable {g : Nat} {v : Value} {w w' : World} (h : EvP g v w) (hg : GrM g [] w w') : EvP g v w' := by
  obtain ⟨b, cap, vs, h1, h2, h3, h4, h5, h6⟩ := h
  exact ⟨b, cap, vs, h1, h2, h3, h4, Nat.lt_of_lt_of_le h5 hg.size, h6.of_block hg.size (fun q hq => by injection hq with hq; subst hq; exact hg.block b h5 h4 (fun x hx => by cases hx))⟩
/-- A pool, a size, a time to stay and events are drawn; nothing that was there has turned. -/
def RetDRv (w : World) (e : Ending) (w' : World) : Prop :=
  ∃ (p : Addr) (pc : Nat) (hs : List H3) (sz st : Int) (a : Addr) (cap : Nat) (vs : List V6), e = .returned (.tuple #[.slice (some p) hs.length pc, .int .i64 sz, .int .i64 st, .slice (some a) vs.length cap]) ∧ hs.length ≤ 7 ∧ vs.length ≤ 41 ∧ vs.length ≤ cap ∧ Hosts w' (some p) hs ∧ Evs w' (some a) vs ∧ Below w.heap.size w w' ∧ 0 ≤ sz ∧ sz ≤ 1000 ∧ 0 ≤ st ∧ st ≤ 1000
set_option maxHeartbeats 8000000 in
set_option maxRecDepth 100000 in
theorem s_DrawRunEvents (a : Option Addr) (len cap : Nat) (w : World) (hcl : len ≤ cap) (hcap : cap ≤ maxLen) (h : Code w.heap.size w a len) :
    Calls Try.prog 14 #[.slice a len cap] w (RetDRv w) := by
  have HC := Lib.hid h
  clear h
  go_enter Try.func14, Try.ntmps14
  go_wp2_with fail
  refine (c_open (D := w.heap.size) a len cap _ hcl hcap (Nat.le_refl _) HC.out).mono ?_
  rintro e w0 ⟨g, rfl, hg, hr, hb⟩
  have HR0 := Lib.hid hr
  have hz0 := hb.size
  have q0 : Below w.heap.size w w0 := hb
  have hgl0 := hr.lt
  clear hr hb
  go_wp2_with fail
  refine (s_l20Pool g 0 14 _ HR0.out (by omega) (by omega) (by omega)).mono ?_
  rintro e w1 ⟨b0, pc, hs, rfl, hh7, ho1, ⟨p1, hp1, hr1⟩, hg1⟩
  have hz1 := hg1.size
  have hbl := ho1.lt b0 rfl
  have hbh : Hid (b0 ≠ g ∧ b0 < w1.heap.size ∧ w.heap.size ≤ b0) := Lib.hid (by
    refine ⟨by omega, by omega, by omega⟩)
  have q1 := Lib.hid (q0.trans (gb_below hg1 (by omega) (by omega)))
  have HH1 : Hid (Hosts w1 (some ⟨b0, 0, none⟩) hs) := Lib.hid (row_vals ho1)
  have HR1 := Lib.hid hr1
  have hgl1 := hr1.lt
  clear q0 hg1 hr1 ho1 HR0
  obtain ⟨pn, hpn⟩ : ∃ pn, hs.length = pn := ⟨_, rfl⟩
  have hret : Hid (∀ (sz st : Int) (b c : Nat) (vs : List V6) (w' : World), vs.length ≤ 41 → vs.length ≤ c → Hosts w' (some ⟨b0, 0, none⟩) hs → Evs w' (some ⟨b, 0, none⟩) vs → Below w.heap.size w w' → 0 ≤ sz → sz ≤ 1000 → 0 ≤ st → st ≤ 1000 → RetDRv w (.returned (.tuple #[.slice (some ⟨b0, 0, none⟩) pn pc, .int .i64 sz, .int .i64 st, .slice (some ⟨b, 0, none⟩) vs.length c])) w') := Lib.hid (fun sz st b c vs w' h1 h2 h3 h4 h5 h6 h7 h8 h9 => by
    rw [← hpn]
    exact ⟨⟨b0, 0, none⟩, pc, hs, sz, st, ⟨b, 0, none⟩, c, vs, rfl, hh7, h1, h2, h3, h4, h5, h6, h7, h8, h9⟩)
  rw [hpn]
  clear hpn
  go_upto_region 3 with fail
  have HG9 : RelOk w.heap.size g w1 (GrM g []) := GrM.ok (fun q hq => by cases hq) (by omega)
  refine region_checked_G (D := w.heap.size) (D0 := w.heap.size) _ 0 false 21 30 g p1 400 (GrM g []) (FM []) [(6, .rd)] [(6, .rd), (12, .any), (13, .rd), (14, .int 0 6), (15, .rd), (16, .int 0 13), (17, .int 0 1), (18, .int 0 12), (19, .int 0 18), (20, .sl [(10, 10), (50, 50), (1000, 1000), (0, 0)]), (21, .sl [(0, 0), (0, 0), (1, 1), (1, 1), (2, 2), (3, 3)]), (22, .rd), (23, .int 0 5), (24, .pt 0 3), (25, .int 0 3), (26, .pt 0 1000), (27, .int 0 1000), (28, .rd), (29, .any), (2, .any), (3, .int 0 18), (4, .int 0 1000)]
    [12, 13, 14, 15, 16, 17, 18, 19, 20, 21, 22, 23, 24, 25, 26, 27, 28, 29, 2, 3, 4] [] [(12, fun v _ => v = .slice (some ⟨b0, 0, none⟩) pn pc), (29, EvP g), (2, fun v _ => v = .slice (some ⟨b0, 0, none⟩) pn pc)] [12, 29, 2] [0, 17, 18] rfl (by kernel_rfl) rfl ?_ (fun h => by cases h) ?_ HR1.out (by omega) (by omega) HG9 (FM.stable (fun x hx => by cases hx)) (by omega) ?_ ?_
  · intro q hq v w9 w9' h hg9
    simp only [List.mem_cons, List.not_mem_nil, or_false] at hq
    rcases hq with rfl | rfl | rfl
    · exact h
    · exact EvP.stable h hg9
    · exact h
  · intro q hq
    rw [List.mem_singleton.1 hq]
    rfl
  · intro i hi o hin ho k a' W' hk hdef hfrm hdep hgr hW
    have hnd : (([(12, fun v _ => v = .slice (some ⟨b0, 0, none⟩) pn pc), (29, EvP g), (2, fun v _ => v = .slice (some ⟨b0, 0, none⟩) pn pc)] : List (Tmp × VP)).map (·.1)).Nodup := by show ([12, 29, 2] : List Nat).Nodup; decide
    simp only [List.mem_cons, List.not_mem_nil, or_false] at hi
    rcases hi with rfl | rfl | rfl
    all_goals
      injection ho with ho
      subst ho
    · have e7 : a'.tmps.getD 7 undef = .slice (some ⟨b0, 0, none⟩) pn pc := (hfrm 7 (by kernel_rfl)).trans rfl
      exact hand_val hnd (fun w => GrM.rfl' w) hW rfl rfl rfl ((run_mv _ _ _ (.tmp 7) _ e7).1 rfl) rfl
    · obtain ⟨q9, hq9, hr9⟩ := hW
      have e28 : a'.tmps.getD 28 undef = .pointer (some ⟨g, 0, none⟩) := (hdep 28 (by kernel_rfl)).1
      have hv9 : (#[Operand.tmp 28, Operand.const (.int .i64 14)] : Array Operand).map a'.eval = #[.pointer (some ⟨g, 0, none⟩), .int .i64 14] := by simp only [List.map_toArray, List.map_cons, List.map_nil, Act.eval, e28]
      refine hand_call hnd (fun w' h => HG9.of _ _ hgr h) rfl rfl rfl (run_callL _ _ _ 56 _ _ _ rfl rfl hv9 (enters_of Try.func56 (by kernel_rfl) rfl)) ?_
      refine (s_l20Events g q9 14 W' hr9 (by omega) (by omega) (by omega)).mono ?_
      rintro e w5 ⟨b, c, vs, rfl, h41, ho5, ⟨q5, hq5, hr5⟩, g5⟩
      have hb5 := ho5.lt b rfl
      have hgl9 := hr9.lt
      exact ⟨_, rfl, ⟨b, c, vs, rfl, h41, (row_cap ho5).1, by omega, by omega, (row_vals ho5).ints⟩, g5, q5, by have : 400 * (k + 1) = 400 * k + 400 := Nat.mul_succ _ _; omega, hr5⟩
    · have e12 : a'.tmps.getD 12 undef = .slice (some ⟨b0, 0, none⟩) pn pc := XHas.at (hdep 12 (by kernel_rfl)).2.2
      exact hand_val hnd (fun w => GrM.rfl' w) hW rfl rfl rfl ((run_mv _ _ _ (.tmp 12) _ e12).2 rfl) rfl
  · intro f w9 hf hgr hst hrd
    obtain ⟨sz, e3, s1, s2⟩ := (hf 3 (by decide)).1
    obtain ⟨st, e4, s3, s4⟩ := (hf 4 (by decide)).1
    have e3' : f 3 = .int .i64 sz := e3
    have e4' : f 4 = .int .i64 st := e4
    have e2' : f 2 = .slice (some ⟨b0, 0, none⟩) pn pc := XHas.at (hf 2 (by decide)).2.2
    obtain ⟨b, c, vs, e29, h41, hc41, hbg, hbl9, hE9⟩ : EvP g (f 29) w9 := XHas.at (hf 29 (by decide)).2.2
    have q9 := Lib.hid (q1.out.trans (hgr.below (L := w.heap.size) (by omega) (by omega) (fun q hq => by cases hq)))
    have HH9 := Lib.hid (HH1.out.of_block hgr.size (fun q hq => by injection hq with hq; subst hq; exact hgr.block b0 hbh.out.2.1 hbh.out.1 (fun x hx => by cases hx)))
    have HE9 := Lib.hid hE9
    simp only [List.drop_succ_cons, List.drop_zero, putL, Act.put, List.setIfInBounds_toArray, List.set_cons_succ, List.set_cons_zero, e2', e3', e4', e29]
    clear hf hgr hst hrd e3 e4 e3' e4' e2' e29 hE9
    go_wp2
    refine bodyPost_ret (v := .tuple #[.slice (some ⟨b0, 0, none⟩) pn pc, .int .i64 sz, .int .i64 st, .slice (some ⟨b, 0, none⟩) vs.length c]) (by simp [results, Try.results14, go_sem]) rfl ?_
    exact hret.out sz st b c vs _ h41 hc41 HH9.out HE9.out q9.out s1 (by omega) s3 s4
end Go.Proofs.Ytdkdfehlmphikaa
