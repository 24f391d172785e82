/- The walk of the exact law of CloseOut: true for all arguments. No condition. The text is written by a program (wip/ex_drop.py, turned to outlets). -/
import Derived.Test.YtalalapjanckdaaOutT
import Derived.Test.YtalalapjanckdaaOutL
import Derived.Test.YtalalapjanckdaaOpO
namespace Go.Proofs.Ytalalapjanckdaa
open Go.RowKit
theorem s_Cls_v {N R : Int} {es : List F5} {f : F5} {v1 v2 : Int} {v3 : List F5} (hv : closeT (N, R, es) f = (v1, v2, v3)) (a : Option Addr) (n cap : Nat) (w : World) (hxs : es.length = n) (hn : n ≤ 1048576) {B : Nat} (o : w.ownsRow B 27 5 (.slice a n cap) n (fCells es)) :
    Calls Try.prog 17 #[.agg #[.int .i64 N, .int .i64 R, .slice a n cap], fvv f] w (RetOut w v1 v2 v3) := by
  have := s_CloseOut N R f a n cap es w hxs hn (FlwRow.flws o) (own_none o)
  rwa [hv] at this
theorem c_Cls_v {N R : Int} {es : List F5} {f : F5} {v1 v2 : Int} {v3 : List F5} (hv : closeT (N, R, es) f = (v1, v2, v3)) (a : Option Addr) (n cap : Nat) (w : World) (hxs : es.length = n) (hn : n ≤ 1048576) {B : Nat} (o : w.ownsRow B 27 5 (.slice a n cap) n (fCells es)) :
    Calls Try.prog 20 #[.agg #[.int .i64 N, .int .i64 R, .slice a n cap], fvv f] w (RetOut w v1 v2 v3) := by
  have := c_CloseOut N R f a n cap es w hxs hn (FlwRow.flws o) (own_none o)
  rwa [hv] at this
set_option maxHeartbeats 8000000 in
set_option maxRecDepth 100000 in
theorem walkExactCloseOut (N R : Int) (a : Option Addr) (n cap : Nat) (es : List F5) (y0 y1 y2 y3 y4 : Int) (w : World) (_ : (Lit.int .i64 N).wf = true) (_ : (Lit.int .i64 R).wf = true) (w0 : IsFlws w a n cap es)
    (_ : (Lit.int .i64 y0).wf = true) (_ : (Lit.int .i64 y1).wf = true) (_ : (Lit.int .i64 y2).wf = true) (_ : (Lit.int .i64 y3).wf = true) (_ : (Lit.int .i64 y4).wf = true) :
    Calls Try.prog 4 #[.agg #[.int .i64 N, .int .i64 R, .slice a n cap], .agg #[.int .i64 y0, .int .i64 y1, .int .i64 y2, .int .i64 y3, .int .i64 y4]] w fun e w' => e = .returned (.bool true) ∧ Below w.heap.size w w' := by
  obtain ⟨hL, hc, hm, _, hI⟩ := w0
  by_cases hbig : (1048576 : Int) < n
  · have hm : n ≤ maxLen := Nat.le_trans hc hm
    go_enter Try.func4, Try.ntmps4
    go_wp2_with fail
    refine (c_szOutlet_no N R a n cap 1048576 _ hm (by omega) (by omega) hbig).mono ?_; rintro e w1 ⟨rfl, b1⟩
    go_wp2_with fail
    go_ret
    exact ⟨rfl, (((Below.refl _ _).alloc (Nat.le_refl _) _).alloc (by simp) _).trans (b1.mono (by simp; omega))⟩
  have hn : n ≤ 1048576 := by omega
  have hn0 : (n : Int) ≤ 1048576 := by omega
  have HL := Lib.hid hL
  clear hbig hL hc hm
  obtain ⟨⟨v1, v2, v3⟩, hv⟩ : ∃ v, closeT (N, R, es) (y0, y1, y2, y3, y4) = v := ⟨_, rfl⟩
  have HN3 : Hid (v3.length ≤ 1048576) := Lib.hid (by
    have h3 : (closeT (N, R, es) (y0, y1, y2, y3, y4)).2.2.length ≤ es.length := by
      unfold closeT
      split
      · show (if _ then _ else _ : List F5).length ≤ _
        split
        · rw [List.length_set]; exact Nat.le_refl _
        · exact Nat.le_refl _
      · simp
    rw [hv] at h3
    have := HL.out
    simp only at h3
    omega)
  have hn3 := HN3.out
  have HV := Lib.hid hv
  clear hv
  have D0 := Lib.hid (Below.refl w.heap.size w)
  go_enter Try.func4, Try.ntmps4
  have AW0 := Lib.hid (Below.refl w.heap.size w)
  have RI := Lib.hid hI
  clear hI
  obtain ⟨w1, hw1, hb1, hz1, hx1⟩ : ∃ W, W = w.alloc (.cells #[.int .i64 N, .int .i64 R, .slice a n cap] 37) ∧ Below w.heap.size w W ∧ W.heap.size = w.heap.size + 1 ∧ Box W w.heap.size 37 [.int .i64 N, .int .i64 R, .slice a n cap] := head1 w 37 _
  have q1 := hz1
  have HW1 := Lib.hid hw1
  have z1 : w.heap.size + 1 ≤ w1.heap.size := by omega
  have D1 := Lib.hid (Below.step D0.out hb1 (by omega))
  have AW1 := Lib.hid (Below.step AW0.out hb1 (by omega))
  have BP1 := Lib.hid hx1
  clear hw1 hb1 hz1 hx1
  obtain ⟨w2, hw2, hb2, hz2, hx2⟩ : ∃ W, W = w1.alloc (.cells #[.int .i64 y0, .int .i64 y1, .int .i64 y2, .int .i64 y3, .int .i64 y4] 38) ∧ Below w1.heap.size w1 W ∧ W.heap.size = w1.heap.size + 1 ∧ Box W w1.heap.size 38 [.int .i64 y0, .int .i64 y1, .int .i64 y2, .int .i64 y3, .int .i64 y4] := head1 w1 38 _
  rw [q1] at hx2
  have q2 := hz2
  have HW2 := Lib.hid hw2
  have z2 : w1.heap.size + 1 ≤ w2.heap.size := by omega
  have D2 := Lib.hid (Below.step D1.out hb2 (by omega))
  have AW2 := Lib.hid (Below.step AW1.out hb2 (by omega))
  have BP2 := Lib.hid (BP1.out.keep hb2)
  have BQ2 := Lib.hid hx2
  clear hw2 hb2 hz2 hx2
  go_wp2_with fail
  rw [← HW1.out]
  rw [← HW2.out]
  refine (c_szOutlet N R a n cap 1048576 _ (by omega) hn0).mono ?_; rintro e w3 ⟨rfl, g3⟩
  have z3 := g3.size
  have D3 := Lib.hid (Below.step D2.out g3 (by omega))
  have AW3 := Lib.hid (Below.step AW2.out g3 (by omega))
  have BP3 := Lib.hid (BP2.out.keep g3)
  have BQ3 := Lib.hid (BQ2.out.keep g3)
  clear g3
  clear AW0
  clear AW1 BP1
  clear AW2 BP2 BQ2
  have hsz : ¬ (1048576 - (n : Int) < 0) := by omega
  go_upto_region 5 with fail
  refine region_any _ 6 77 [18, 19, 20, 21, 22, 6] [(18, .val (.agg #[.int .i64 N, .int .i64 R, .slice a n cap])), (19, .row w3.heap.size 27 5 n (fCells es) (fun s => .agg #[.int .i64 N, .int .i64 R, s])), (20, .val (.agg #[.int .i64 y0, .int .i64 y1, .int .i64 y2, .int .i64 y3, .int .i64 y4])), (21, .val (.agg #[.int .i64 y0, .int .i64 y1, .int .i64 y2, .int .i64 y3, .int .i64 y4])), (22, .row w3.heap.size 27 5 v3.length (fCells v3) (fun s => .agg #[.int .i64 v1, .int .i64 v2, s])), (6, .bx w3.heap.size 25 [.int .i64 0, .int .i64 0, .slice none 0 0])] rfl (by kernel_rfl) ?_ ?_
  · refine ⟨?_, ?_, ?_, ?_, ?_, ?_, trivial⟩
    · refine op_val (d := 18) rfl (.agg #[.int .i64 N, .int .i64 R, .slice a n cap]) (fun fr9 wq hf _ hb => ⟨?_, ?_⟩) _
      rotate_left
      · exact rfl
      exact run_ldOl _ _ _ (.tmp 2) _ _ _ _ rfl (hf 2 (by kernel_rfl)) (BP3.out.keep hb)
    · intro fr9 wq hf hd hb
      have e18 : fr9.tmps.getD 18 undef = .agg #[.int .i64 N, .int .i64 R, .slice a n cap] := hd 18 (by kernel_rfl)
      have hv9 : (#[Operand.tmp 18] : Array Operand).map fr9.eval = #[.agg #[.int .i64 N, .int .i64 R, .slice a n cap]] := by simp only [List.map_toArray, List.map_cons, List.map_nil, Act.eval, e18]
      refine ⟨19, rfl, op_call rfl (run_callL _ _ _ 18 _ _ _ rfl rfl hv9 (enters_of Try.func18 (by kernel_rfl) rfl)) ?_⟩
      refine (c_toOutlet N R a n cap es _ HL.out hn ((RI.out.below AW3.out).below hb)).mono ?_
      rintro e w5 ⟨a5, c5, rfl, o5, g5⟩
      exact ⟨_, rfl, _, rfl, ⟨a5, c5, rfl, row_wider o5 hb.size⟩, grown_below g5⟩
    · refine op_val (d := 20) rfl (.agg #[.int .i64 y0, .int .i64 y1, .int .i64 y2, .int .i64 y3, .int .i64 y4]) (fun fr9 wq hf _ hb => ⟨?_, ?_⟩) _
      rotate_left
      · exact rfl
      exact run_ldFl _ _ _ (.tmp 3) _ _ _ _ _ _ rfl (hf 3 (by kernel_rfl)) (BQ3.out.keep hb)
    · intro fr9 wq hf hd hb
      have e20 : fr9.tmps.getD 20 undef = .agg #[.int .i64 y0, .int .i64 y1, .int .i64 y2, .int .i64 y3, .int .i64 y4] := hd 20 (by kernel_rfl)
      have hv9 : (#[Operand.tmp 20] : Array Operand).map fr9.eval = #[.agg #[.int .i64 y0, .int .i64 y1, .int .i64 y2, .int .i64 y3, .int .i64 y4]] := by simp only [List.map_toArray, List.map_cons, List.map_nil, Act.eval, e20]
      refine ⟨21, rfl, op_call rfl (run_callL _ _ _ 19 _ _ _ rfl rfl hv9 (enters_of Try.func19 (by kernel_rfl) rfl)) ?_⟩
      refine (c_toFlow y0 y1 y2 y3 y4 _).mono ?_
      rintro e w5 ⟨rfl, g5⟩
      exact ⟨_, rfl, _, rfl, rfl, g5⟩
    · intro fr9 wq hf hd hb
      obtain ⟨a19, c19, e19, o19⟩ : ∃ (a2 : Option Addr) (c2 : Nat), fr9.tmps.getD 19 undef = .agg #[.int .i64 N, .int .i64 R, .slice a2 n c2] ∧ wq.ownsRow w3.heap.size 27 5 (.slice a2 n c2) n (fCells es) := hd 19 (by kernel_rfl)
      have e21 : fr9.tmps.getD 21 undef = .agg #[.int .i64 y0, .int .i64 y1, .int .i64 y2, .int .i64 y3, .int .i64 y4] := hd 21 (by kernel_rfl)
      have hv9 : (#[Operand.tmp 19, Operand.tmp 21] : Array Operand).map fr9.eval = #[.agg #[.int .i64 N, .int .i64 R, .slice a19 n c19], .agg #[.int .i64 y0, .int .i64 y1, .int .i64 y2, .int .i64 y3, .int .i64 y4]] := by simp only [List.map_toArray, List.map_cons, List.map_nil, Act.eval, e19, e21]
      refine ⟨22, rfl, op_call rfl (run_callL _ _ _ 17 _ _ _ rfl rfl hv9 (enters_of Try.func17 (by kernel_rfl) rfl)) ?_⟩
      refine (s_Cls_v HV.out a19 n c19 _ HL.out hn o19).mono ?_
      rintro e w5 ⟨a5, c5, rfl, o5, g5⟩
      exact ⟨_, rfl, _, rfl, ⟨a5, c5, rfl, row_wider o5 hb.size⟩, grown_below g5⟩
    · exact op_alloc (d := 6) rfl 25 [.int .i64 0, .int .i64 0, .slice none 0 0] _ (Nat.le_refl _) rfl (fun ρ wq => run_alOi _ ρ wq rfl) _
  · intro fq wq hf hbq
    have e18 : fq 18 = .agg #[.int .i64 N, .int .i64 R, .slice a n cap] := hf 18 (by decide)
    obtain ⟨a19, c19, e19, o19⟩ : ∃ (a2 : Option Addr) (c2 : Nat), fq 19 = .agg #[.int .i64 N, .int .i64 R, .slice a2 n c2] ∧ wq.ownsRow w3.heap.size 27 5 (.slice a2 n c2) n (fCells es) := hf 19 (by decide)
    have e20 : fq 20 = .agg #[.int .i64 y0, .int .i64 y1, .int .i64 y2, .int .i64 y3, .int .i64 y4] := hf 20 (by decide)
    have e21 : fq 21 = .agg #[.int .i64 y0, .int .i64 y1, .int .i64 y2, .int .i64 y3, .int .i64 y4] := hf 21 (by decide)
    obtain ⟨a22, c22, e22, o22⟩ : ∃ (a2 : Option Addr) (c2 : Nat), fq 22 = .agg #[.int .i64 v1, .int .i64 v2, .slice a2 v3.length c2] ∧ wq.ownsRow w3.heap.size 27 5 (.slice a2 v3.length c2) v3.length (fCells v3) := hf 22 (by decide)
    obtain ⟨g6, e6, l6, b6⟩ : ∃ g, fq 6 = .pointer (some ⟨g, 0, none⟩) ∧ w3.heap.size ≤ g ∧ Box wq g 25 [.int .i64 0, .int .i64 0, .slice none 0 0] := hf 6 (by decide)
    simp only [List.drop_succ_cons, List.drop_zero, putL, Act.put, List.setIfInBounds_toArray, List.set_cons_succ, List.set_cons_zero, e18, e19, e20, e21, e22, e6]
    clear hf e18 e19 e20 e21 e22 e6
    obtain ⟨y0, y1, y2, yf⟩ := b6.three
    have hne : (Value.slice a22 v3.length c22).ownBlock ≠ some g6 := row_ne o22 b6 (by decide)
    go_upto_region 6 with fail
    obtain ⟨w4, hw4⟩ : ∃ W, W = (((wq.setCell ⟨g6, 0, none⟩ (.int .i64 v1)).setCell ⟨g6, 1, none⟩ (.int .i64 v2)).setCell ⟨g6, 2, none⟩ (.slice a22 v3.length c22)) := ⟨_, rfl⟩
    have hb4 : Below w3.heap.size w3 w4 := by rw [hw4]; exact (((hbq.setCell l6 _).setCell l6 _).setCell l6 _)
    have HW4 := Lib.hid hw4
    have z4 := hb4.size
    have D4 := Lib.hid (Below.step D3.out hb4 (by omega))
    have AW4 := Lib.hid (Below.step AW3.out hb4 (by omega))
    have BP4 := Lib.hid (BP3.out.keep hb4)
    have BQ4 := Lib.hid (BQ3.out.keep hb4)
    have BY4 : Hid (Box w4 g6 25 [.int .i64 v1, .int .i64 v2, .slice a22 v3.length c22]) := Lib.hid (by rw [hw4]; exact (((b6.set 0 _).set 1 _).set 2 _))
    have OY4 : Hid (w4.ownsRow w3.heap.size 27 5 (.slice a22 v3.length c22) v3.length (fCells v3)) := Lib.hid (by rw [hw4]; exact (row_set (row_set (row_set o22 _ _ hne) _ _ hne) _ _ hne))
    have LY := Lib.hid (fun k hk => OY4.out.lt k hk)
    have hgl6 := BY4.out.lt
    clear hw4 hb4 hbq hne y0 y1 y2 yf o19 o22 b6 l6
    rw [← HW4.out]
    clear AW3 BP3 BQ3
    obtain ⟨xP0, xP1, xP2, xPf⟩ := BP4.out.three
    go_wp2_with fail
    refine (c_toOutlet N R a n cap es _ HL.out hn (RI.out.below AW4.out)).mono ?_; rintro e w5 ⟨a5, c5, rfl, o5, g5⟩
    clear xP0 xP1 xP2 xPf
    have z5 := (grown_below g5).size
    have D5 := Lib.hid (Below.step D4.out (grown_below g5) (by omega))
    have AW5 := Lib.hid (Below.step AW4.out (grown_below g5) (by omega))
    have BP5 := Lib.hid (BP4.out.keep (grown_below g5))
    have BQ5 := Lib.hid (BQ4.out.keep (grown_below g5))
    have BY5 := Lib.hid (BY4.out.keep (grown_below g5))
    have OY5 := Lib.hid (row_below OY4.out (grown_below g5))
    have OX05 := Lib.hid o5
    have LX0 := Lib.hid (fun k hk => o5.lt k hk)
    clear g5 o5
    clear AW4 BP4 BQ4 BY4 OY4
    obtain ⟨w6, hw6, hb6, hz6, hx6⟩ : ∃ W, W = w5.alloc (.cells #[.int .i64 N, .int .i64 R, .slice a5 n c5] 25) ∧ Below w5.heap.size w5 W ∧ W.heap.size = w5.heap.size + 1 ∧ Box W w5.heap.size 25 [.int .i64 N, .int .i64 R, .slice a5 n c5] := head1 w5 25 _
    have q6 := hz6
    have HW6 := Lib.hid hw6
    have z6 : w5.heap.size + 1 ≤ w6.heap.size := by omega
    have D6 := Lib.hid (Below.step D5.out hb6 (by omega))
    have AW6 := Lib.hid (Below.step AW5.out hb6 (by omega))
    have BP6 := Lib.hid (BP5.out.keep hb6)
    have BQ6 := Lib.hid (BQ5.out.keep hb6)
    have BY6 := Lib.hid (BY5.out.keep hb6)
    have OY6 := Lib.hid (row_below OY5.out hb6)
    have OX06 := Lib.hid (row_below OX05.out hb6)
    have BX06 := Lib.hid hx6
    clear hw6 hb6 hz6 hx6
    go_upto_region 7 with fail
    rw [← HW6.out]
    refine region_any _ 5 77 [25, 26, 27, 28, 8] [(25, .val (.agg #[.int .i64 N, .int .i64 R, .slice a5 n c5])), (26, .val (.agg #[.int .i64 y0, .int .i64 y1, .int .i64 y2, .int .i64 y3, .int .i64 y4])), (27, .val (.agg #[.int .i64 y0, .int .i64 y1, .int .i64 y2, .int .i64 y3, .int .i64 y4])), (28, .row w6.heap.size 27 5 v3.length (fCells v3) (fun s => .agg #[.int .i64 v1, .int .i64 v2, s])), (8, .bx w6.heap.size 25 [.int .i64 0, .int .i64 0, .slice none 0 0])] rfl (by kernel_rfl) ?_ ?_
    · refine ⟨?_, ?_, ?_, ?_, ?_, trivial⟩
      · refine op_val (d := 25) rfl (.agg #[.int .i64 N, .int .i64 R, .slice a5 n c5]) (fun fr9 wq hf _ hb => ⟨?_, ?_⟩) _
        rotate_left
        · exact rfl
        exact run_ldOi _ _ _ (.tmp 7) _ _ _ _ rfl (hf 7 (by kernel_rfl)) (BX06.out.keep hb)
      · refine op_val (d := 26) rfl (.agg #[.int .i64 y0, .int .i64 y1, .int .i64 y2, .int .i64 y3, .int .i64 y4]) (fun fr9 wq hf _ hb => ⟨?_, ?_⟩) _
        rotate_left
        · exact rfl
        exact run_ldFl _ _ _ (.tmp 3) _ _ _ _ _ _ rfl (hf 3 (by kernel_rfl)) (BQ6.out.keep hb)
      · intro fr9 wq hf hd hb
        have e26 : fr9.tmps.getD 26 undef = .agg #[.int .i64 y0, .int .i64 y1, .int .i64 y2, .int .i64 y3, .int .i64 y4] := hd 26 (by kernel_rfl)
        have hv9 : (#[Operand.tmp 26] : Array Operand).map fr9.eval = #[.agg #[.int .i64 y0, .int .i64 y1, .int .i64 y2, .int .i64 y3, .int .i64 y4]] := by simp only [List.map_toArray, List.map_cons, List.map_nil, Act.eval, e26]
        refine ⟨27, rfl, op_call rfl (run_callL _ _ _ 19 _ _ _ rfl rfl hv9 (enters_of Try.func19 (by kernel_rfl) rfl)) ?_⟩
        refine (c_toFlow y0 y1 y2 y3 y4 _).mono ?_
        rintro e w5 ⟨rfl, g5⟩
        exact ⟨_, rfl, _, rfl, rfl, g5⟩
      · intro fr9 wq hf hd hb
        have e25 : fr9.tmps.getD 25 undef = .agg #[.int .i64 N, .int .i64 R, .slice a5 n c5] := hd 25 (by kernel_rfl)
        have e27 : fr9.tmps.getD 27 undef = .agg #[.int .i64 y0, .int .i64 y1, .int .i64 y2, .int .i64 y3, .int .i64 y4] := hd 27 (by kernel_rfl)
        have hv9 : (#[Operand.tmp 25, Operand.tmp 27] : Array Operand).map fr9.eval = #[.agg #[.int .i64 N, .int .i64 R, .slice a5 n c5], .agg #[.int .i64 y0, .int .i64 y1, .int .i64 y2, .int .i64 y3, .int .i64 y4]] := by simp only [List.map_toArray, List.map_cons, List.map_nil, Act.eval, e25, e27]
        refine ⟨28, rfl, op_call rfl (run_callL _ _ _ 20 _ _ _ rfl rfl hv9 (enters_of Try.func20 (by kernel_rfl) rfl)) ?_⟩
        refine (c_Cls_v HV.out a5 n c5 _ HL.out hn (row_below OX06.out hb)).mono ?_
        rintro e w5 ⟨a5, c5, rfl, o5, g5⟩
        exact ⟨_, rfl, _, rfl, ⟨a5, c5, rfl, row_wider o5 hb.size⟩, grown_below g5⟩
      · exact op_alloc (d := 8) rfl 25 [.int .i64 0, .int .i64 0, .slice none 0 0] _ (Nat.le_refl _) rfl (fun ρ wq => run_alOi _ ρ wq rfl) _
    · intro fq wq hf hbq
      have e25 : fq 25 = .agg #[.int .i64 N, .int .i64 R, .slice a5 n c5] := hf 25 (by decide)
      have e26 : fq 26 = .agg #[.int .i64 y0, .int .i64 y1, .int .i64 y2, .int .i64 y3, .int .i64 y4] := hf 26 (by decide)
      have e27 : fq 27 = .agg #[.int .i64 y0, .int .i64 y1, .int .i64 y2, .int .i64 y3, .int .i64 y4] := hf 27 (by decide)
      obtain ⟨a28, c28, e28, o28⟩ : ∃ (a2 : Option Addr) (c2 : Nat), fq 28 = .agg #[.int .i64 v1, .int .i64 v2, .slice a2 v3.length c2] ∧ wq.ownsRow w6.heap.size 27 5 (.slice a2 v3.length c2) v3.length (fCells v3) := hf 28 (by decide)
      obtain ⟨g8, e8, l8, b8⟩ : ∃ g, fq 8 = .pointer (some ⟨g, 0, none⟩) ∧ w6.heap.size ≤ g ∧ Box wq g 25 [.int .i64 0, .int .i64 0, .slice none 0 0] := hf 8 (by decide)
      simp only [List.drop_succ_cons, List.drop_zero, putL, Act.put, List.setIfInBounds_toArray, List.set_cons_succ, List.set_cons_zero, e25, e26, e27, e28, e8]
      clear hf e25 e26 e27 e28 e8
      obtain ⟨y0, y1, y2, yf⟩ := b8.three
      have hne : (Value.slice a28 v3.length c28).ownBlock ≠ some g8 := row_ne o28 b8 (by decide)
      go_upto_region 8 with fail
      obtain ⟨w7, hw7⟩ : ∃ W, W = (((wq.setCell ⟨g8, 0, none⟩ (.int .i64 v1)).setCell ⟨g8, 1, none⟩ (.int .i64 v2)).setCell ⟨g8, 2, none⟩ (.slice a28 v3.length c28)) := ⟨_, rfl⟩
      have hb7 : Below w6.heap.size w6 w7 := by rw [hw7]; exact (((hbq.setCell l8 _).setCell l8 _).setCell l8 _)
      have HW7 := Lib.hid hw7
      have z7 := hb7.size
      have D7 := Lib.hid (Below.step D6.out hb7 (by omega))
      have AW7 := Lib.hid (Below.step AW6.out hb7 (by omega))
      have BP7 := Lib.hid (BP6.out.keep hb7)
      have BQ7 := Lib.hid (BQ6.out.keep hb7)
      have BY7 := Lib.hid (BY6.out.keep hb7)
      have BX07 := Lib.hid (BX06.out.keep hb7)
      have OY7 := Lib.hid (row_below OY6.out hb7)
      have OX07 := Lib.hid (row_below OX06.out hb7)
      have BG7 : Hid (Box w7 g8 25 [.int .i64 v1, .int .i64 v2, .slice a28 v3.length c28]) := Lib.hid (by rw [hw7]; exact (((b8.set 0 _).set 1 _).set 2 _))
      have OG7 : Hid (w7.ownsRow w6.heap.size 27 5 (.slice a28 v3.length c28) v3.length (fCells v3)) := Lib.hid (by rw [hw7]; exact (row_set (row_set (row_set o28 _ _ hne) _ _ hne) _ _ hne))
      have LG := Lib.hid (fun k hk => OG7.out.lt k hk)
      have hgl8 := BG7.out.lt
      clear hw7 hb7 hbq hne y0 y1 y2 yf o28 b8 l8
      rw [← HW7.out]
      clear AW5 BP5 BQ5 BY5 OY5 OX05
      clear AW6 BP6 BQ6 BY6 BX06 OY6 OX06
      obtain ⟨xG0, xG1, xG2, xGf⟩ := BG7.out.three
      obtain ⟨xY0, xY1, xY2, xYf⟩ := BY7.out.three
      go_wp2_with fail
      refine (c_eqOutlet v1 v2 _ _ v3.length _ _ v3 _ rfl HN3.out (FlwRow.flws OG7.out) (FlwRow.flws OY7.out)).mono ?_; rintro e w8 ⟨rfl, g8⟩
      clear xG0 xG1 xG2 xGf xY0 xY1 xY2 xYf
      have z8 := g8.size
      have D8 := Lib.hid (Below.step D7.out g8 (by omega))
      have AW8 := Lib.hid (Below.step AW7.out g8 (by omega))
      have BP8 := Lib.hid (BP7.out.keep g8)
      have BQ8 := Lib.hid (BQ7.out.keep g8)
      have BY8 := Lib.hid (BY7.out.keep g8)
      have BX08 := Lib.hid (BX07.out.keep g8)
      have BG8 := Lib.hid (BG7.out.keep g8)
      have OY8 := Lib.hid (row_below OY7.out g8)
      have OX08 := Lib.hid (row_below OX07.out g8)
      have OG8 := Lib.hid (row_below OG7.out g8)
      clear g8
      clear AW7 BP7 BQ7 BY7 BX07 BG7 OY7 OX07 OG7
      go_wp2_with fail
      go_upto_region 10 with fail
      refine region_any _ 4 77 [33, 34, 35, 36] [(33, .val (.agg #[.int .i64 N, .int .i64 R, .slice a5 n c5])), (34, .val (.agg #[.int .i64 N, .int .i64 R, .slice a n cap])), (35, .row w8.heap.size 27 5 n (fCells es) (fun s => .agg #[.int .i64 N, .int .i64 R, s])), (36, .val (.bool true))] rfl (by kernel_rfl) ?_ ?_
      · refine ⟨?_, ?_, ?_, ?_, trivial⟩
        · refine op_val (d := 33) rfl (.agg #[.int .i64 N, .int .i64 R, .slice a5 n c5]) (fun fr9 wq hf _ hb => ⟨?_, ?_⟩) _
          rotate_left
          · exact rfl
          exact run_ldOi _ _ _ (.tmp 7) _ _ _ _ rfl (hf 7 (by kernel_rfl)) (BX08.out.keep hb)
        · refine op_val (d := 34) rfl (.agg #[.int .i64 N, .int .i64 R, .slice a n cap]) (fun fr9 wq hf _ hb => ⟨?_, ?_⟩) _
          rotate_left
          · exact rfl
          exact run_ldOl _ _ _ (.tmp 2) _ _ _ _ rfl (hf 2 (by kernel_rfl)) (BP8.out.keep hb)
        · intro fr9 wq hf hd hb
          have e34 : fr9.tmps.getD 34 undef = .agg #[.int .i64 N, .int .i64 R, .slice a n cap] := hd 34 (by kernel_rfl)
          have hv9 : (#[Operand.tmp 34] : Array Operand).map fr9.eval = #[.agg #[.int .i64 N, .int .i64 R, .slice a n cap]] := by simp only [List.map_toArray, List.map_cons, List.map_nil, Act.eval, e34]
          refine ⟨35, rfl, op_call rfl (run_callL _ _ _ 18 _ _ _ rfl rfl hv9 (enters_of Try.func18 (by kernel_rfl) rfl)) ?_⟩
          refine (c_toOutlet N R a n cap es _ HL.out hn ((RI.out.below AW8.out).below hb)).mono ?_
          rintro e w5 ⟨a5, c5, rfl, o5, g5⟩
          exact ⟨_, rfl, _, rfl, ⟨a5, c5, rfl, row_wider o5 hb.size⟩, grown_below g5⟩
        · intro fr9 wq hf hd hb
          have e33 : fr9.tmps.getD 33 undef = .agg #[.int .i64 N, .int .i64 R, .slice a5 n c5] := hd 33 (by kernel_rfl)
          obtain ⟨a35, c35, e35, o35⟩ : ∃ (a2 : Option Addr) (c2 : Nat), fr9.tmps.getD 35 undef = .agg #[.int .i64 N, .int .i64 R, .slice a2 n c2] ∧ wq.ownsRow w8.heap.size 27 5 (.slice a2 n c2) n (fCells es) := hd 35 (by kernel_rfl)
          have hv9 : (#[Operand.tmp 33, Operand.tmp 35] : Array Operand).map fr9.eval = #[.agg #[.int .i64 N, .int .i64 R, .slice a5 n c5], .agg #[.int .i64 N, .int .i64 R, .slice a35 n c35]] := by simp only [List.map_toArray, List.map_cons, List.map_nil, Act.eval, e33, e35]
          refine ⟨36, rfl, op_call rfl (run_callL _ _ _ 21 _ _ _ rfl rfl hv9 (enters_of Try.func21 (by kernel_rfl) rfl)) ?_⟩
          refine (c_eqOutlet N R _ _ n _ _ es _ HL.out hn (FlwRow.flws (row_below OX08.out hb)) (FlwRow.flws o35)).mono ?_
          rintro e w5 ⟨rfl, g5⟩
          exact ⟨_, rfl, _, rfl, rfl, g5⟩
      · intro fq wq hf hbq
        have e33 : fq 33 = .agg #[.int .i64 N, .int .i64 R, .slice a5 n c5] := hf 33 (by decide)
        have e34 : fq 34 = .agg #[.int .i64 N, .int .i64 R, .slice a n cap] := hf 34 (by decide)
        obtain ⟨a35, c35, e35, o35⟩ : ∃ (a2 : Option Addr) (c2 : Nat), fq 35 = .agg #[.int .i64 N, .int .i64 R, .slice a2 n c2] ∧ wq.ownsRow w8.heap.size 27 5 (.slice a2 n c2) n (fCells es) := hf 35 (by decide)
        have e36 : fq 36 = .bool true := hf 36 (by decide)
        simp only [List.drop_succ_cons, List.drop_zero, putL, Act.put, List.setIfInBounds_toArray, List.set_cons_succ, List.set_cons_zero, e33, e34, e35, e36]
        clear hf e33 e34 e35 e36
        obtain ⟨w9, rfl⟩ : ∃ W, W = wq := ⟨_, rfl⟩
        have z9 := hbq.size
        have D9 := Lib.hid (Below.step D8.out hbq (by omega))
        have AW9 := Lib.hid (Below.step AW8.out hbq (by omega))
        have BP9 := Lib.hid (BP8.out.keep hbq)
        have BQ9 := Lib.hid (BQ8.out.keep hbq)
        have BY9 := Lib.hid (BY8.out.keep hbq)
        have BX09 := Lib.hid (BX08.out.keep hbq)
        have BG9 := Lib.hid (BG8.out.keep hbq)
        have OY9 := Lib.hid (row_below OY8.out hbq)
        have OX09 := Lib.hid (row_below OX08.out hbq)
        have OG9 := Lib.hid (row_below OG8.out hbq)
        clear hbq o35
        clear AW8 BP8 BQ8 BY8 BX08 BG8 OY8 OX08 OG8
        obtain ⟨xX00, xX01, xX02, xX0f⟩ := BX09.out.three
        go_wp2_with fail
        refine (c_markOutlet _ N R _ n _ 1 _ _ hn (by omega) (by omega) OX09.out).mono ?_; rintro e w10 ⟨rfl, o10, g10⟩
        clear xX00 xX01 xX02 xX0f
        have z10 := g10.size
        have D10 := Lib.hid (D9.out.grown g10 (by omega) (fun k hk => by have := (LX0.out k hk).1; omega))
        have AW10 := Lib.hid (AW9.out.grown g10 (by omega) (fun k hk => by have := (LX0.out k hk).1; omega))
        have BP10 := Lib.hid (Box.kept BP9.out g10 (row_ne OX09.out BP9.out (by decide)))
        have BQ10 := Lib.hid (Box.kept BQ9.out g10 (row_ne OX09.out BQ9.out (by decide)))
        have BY10 := Lib.hid (Box.kept BY9.out g10 (row_ne OX09.out BY9.out (by decide)))
        have BX010 := Lib.hid (Box.kept BX09.out g10 (row_ne OX09.out BX09.out (by decide)))
        have BG10 := Lib.hid (Box.kept BG9.out g10 (row_ne OX09.out BG9.out (by decide)))
        have OY10 := Lib.hid (row_kept OY9.out g10 (fun k hk h => by have := LY.out k hk; have := LX0.out k h; omega))
        have OG10 := Lib.hid (row_kept OG9.out g10 (fun k hk h => by have := LG.out k hk; have := LX0.out k h; omega))
        have OX010 := Lib.hid o10
        clear o10 g10
        clear AW9 BP9 BQ9 BY9 BX09 BG9 OY9 OX09 OG9
        have hk1 : ¬ (1 + 5 * (n : Int) < 0) := by omega
        obtain ⟨xG0, xG1, xG2, xGf⟩ := BG10.out.three
        obtain ⟨xY0, xY1, xY2, xYf⟩ := BY10.out.three
        go_wp2_with fail
        refine (c_eqOutlet v1 v2 _ _ v3.length _ _ v3 _ rfl HN3.out (FlwRow.flws OG10.out) (FlwRow.flws OY10.out)).mono ?_; rintro e w11 ⟨rfl, g11⟩
        clear xG0 xG1 xG2 xGf xY0 xY1 xY2 xYf
        have z11 := g11.size
        have D11 := Lib.hid (Below.step D10.out g11 (by omega))
        have AW11 := Lib.hid (Below.step AW10.out g11 (by omega))
        have BP11 := Lib.hid (BP10.out.keep g11)
        have BQ11 := Lib.hid (BQ10.out.keep g11)
        have BY11 := Lib.hid (BY10.out.keep g11)
        have BX011 := Lib.hid (BX010.out.keep g11)
        have BG11 := Lib.hid (BG10.out.keep g11)
        have OY11 := Lib.hid (row_below OY10.out g11)
        have OX011 := Lib.hid (row_below OX010.out g11)
        have OG11 := Lib.hid (row_below OG10.out g11)
        clear g11
        clear AW10 BP10 BQ10 BY10 BX010 BG10 OY10 OX010 OG10
        obtain ⟨xG0, xG1, xG2, xGf⟩ := BG11.out.three
        go_wp2_with fail
        refine (c_markOutlet _ v1 v2 _ v3.length _ 1 _ _ HN3.out (by omega) (by omega) OG11.out).mono ?_; rintro e w12 ⟨rfl, o12, g12⟩
        clear xG0 xG1 xG2 xGf
        have z12 := g12.size
        have D12 := Lib.hid (D11.out.grown g12 (by omega) (fun k hk => by have := (LG.out k hk).1; omega))
        have AW12 := Lib.hid (AW11.out.grown g12 (by omega) (fun k hk => by have := (LG.out k hk).1; omega))
        have BP12 := Lib.hid (Box.kept BP11.out g12 (row_ne OG11.out BP11.out (by decide)))
        have BQ12 := Lib.hid (Box.kept BQ11.out g12 (row_ne OG11.out BQ11.out (by decide)))
        have BY12 := Lib.hid (Box.kept BY11.out g12 (row_ne OG11.out BY11.out (by decide)))
        have BX012 := Lib.hid (Box.kept BX011.out g12 (row_ne OG11.out BX011.out (by decide)))
        have BG12 := Lib.hid (Box.kept BG11.out g12 (row_ne OG11.out BG11.out (by decide)))
        have OY12 := Lib.hid (row_kept OY11.out g12 (fun k hk h => by have := LY.out k hk; have := LG.out k h; omega))
        have OX012 := Lib.hid (row_kept OX011.out g12 (fun k hk h => by have := LX0.out k hk; have := LG.out k h; omega))
        have OG12 := Lib.hid o12
        clear o12 g12
        clear AW11 BP11 BQ11 BY11 BX011 BG11 OY11 OX011 OG11
        have hh1 : ¬ (1 + 5 * (v3.length : Int) < 0) := by omega
        obtain ⟨xG0, xG1, xG2, xGf⟩ := BG12.out.three
        go_wp2_with fail
        refine (c_heldOutlet v1 v2 _ v3.length _ 1 _ HN3.out (by omega) (by omega) (row_vals OG12.out)).mono ?_; rintro e w13 ⟨rfl, g13⟩
        clear xG0 xG1 xG2 xGf
        have z13 := g13.size
        have D13 := Lib.hid (Below.step D12.out g13 (by omega))
        have AW13 := Lib.hid (Below.step AW12.out g13 (by omega))
        have BP13 := Lib.hid (BP12.out.keep g13)
        have BQ13 := Lib.hid (BQ12.out.keep g13)
        have BY13 := Lib.hid (BY12.out.keep g13)
        have BX013 := Lib.hid (BX012.out.keep g13)
        have BG13 := Lib.hid (BG12.out.keep g13)
        have OY13 := Lib.hid (row_below OY12.out g13)
        have OX013 := Lib.hid (row_below OX012.out g13)
        have OG13 := Lib.hid (row_below OG12.out g13)
        clear g13
        clear AW12 BP12 BQ12 BY12 BX012 BG12 OY12 OX012 OG12
        go_upto_region 24 with fail
        refine region_any _ 6 77 [60, 61, 62, 63, 64, 12] [(60, .val (.agg #[.int .i64 N, .int .i64 R, .slice a n cap])), (61, .row w13.heap.size 27 5 n (fCells es) (fun s => .agg #[.int .i64 N, .int .i64 R, s])), (62, .val (.agg #[.int .i64 y0, .int .i64 y1, .int .i64 y2, .int .i64 y3, .int .i64 y4])), (63, .val (.agg #[.int .i64 y0, .int .i64 y1, .int .i64 y2, .int .i64 y3, .int .i64 y4])), (64, .row w13.heap.size 27 5 v3.length (fCells v3) (fun s => .agg #[.int .i64 v1, .int .i64 v2, s])), (12, .bx w13.heap.size 25 [.int .i64 0, .int .i64 0, .slice none 0 0])] rfl (by kernel_rfl) ?_ ?_
        · refine ⟨?_, ?_, ?_, ?_, ?_, ?_, trivial⟩
          · refine op_val (d := 60) rfl (.agg #[.int .i64 N, .int .i64 R, .slice a n cap]) (fun fr9 wq hf _ hb => ⟨?_, ?_⟩) _
            rotate_left
            · exact rfl
            exact run_ldOl _ _ _ (.tmp 2) _ _ _ _ rfl (hf 2 (by kernel_rfl)) (BP13.out.keep hb)
          · intro fr9 wq hf hd hb
            have e60 : fr9.tmps.getD 60 undef = .agg #[.int .i64 N, .int .i64 R, .slice a n cap] := hd 60 (by kernel_rfl)
            have hv9 : (#[Operand.tmp 60] : Array Operand).map fr9.eval = #[.agg #[.int .i64 N, .int .i64 R, .slice a n cap]] := by simp only [List.map_toArray, List.map_cons, List.map_nil, Act.eval, e60]
            refine ⟨61, rfl, op_call rfl (run_callL _ _ _ 18 _ _ _ rfl rfl hv9 (enters_of Try.func18 (by kernel_rfl) rfl)) ?_⟩
            refine (c_toOutlet N R a n cap es _ HL.out hn ((RI.out.below AW13.out).below hb)).mono ?_
            rintro e w5 ⟨a5, c5, rfl, o5, g5⟩
            exact ⟨_, rfl, _, rfl, ⟨a5, c5, rfl, row_wider o5 hb.size⟩, grown_below g5⟩
          · refine op_val (d := 62) rfl (.agg #[.int .i64 y0, .int .i64 y1, .int .i64 y2, .int .i64 y3, .int .i64 y4]) (fun fr9 wq hf _ hb => ⟨?_, ?_⟩) _
            rotate_left
            · exact rfl
            exact run_ldFl _ _ _ (.tmp 3) _ _ _ _ _ _ rfl (hf 3 (by kernel_rfl)) (BQ13.out.keep hb)
          · intro fr9 wq hf hd hb
            have e62 : fr9.tmps.getD 62 undef = .agg #[.int .i64 y0, .int .i64 y1, .int .i64 y2, .int .i64 y3, .int .i64 y4] := hd 62 (by kernel_rfl)
            have hv9 : (#[Operand.tmp 62] : Array Operand).map fr9.eval = #[.agg #[.int .i64 y0, .int .i64 y1, .int .i64 y2, .int .i64 y3, .int .i64 y4]] := by simp only [List.map_toArray, List.map_cons, List.map_nil, Act.eval, e62]
            refine ⟨63, rfl, op_call rfl (run_callL _ _ _ 19 _ _ _ rfl rfl hv9 (enters_of Try.func19 (by kernel_rfl) rfl)) ?_⟩
            refine (c_toFlow y0 y1 y2 y3 y4 _).mono ?_
            rintro e w5 ⟨rfl, g5⟩
            exact ⟨_, rfl, _, rfl, rfl, g5⟩
          · intro fr9 wq hf hd hb
            obtain ⟨a61, c61, e61, o61⟩ : ∃ (a2 : Option Addr) (c2 : Nat), fr9.tmps.getD 61 undef = .agg #[.int .i64 N, .int .i64 R, .slice a2 n c2] ∧ wq.ownsRow w13.heap.size 27 5 (.slice a2 n c2) n (fCells es) := hd 61 (by kernel_rfl)
            have e63 : fr9.tmps.getD 63 undef = .agg #[.int .i64 y0, .int .i64 y1, .int .i64 y2, .int .i64 y3, .int .i64 y4] := hd 63 (by kernel_rfl)
            have hv9 : (#[Operand.tmp 61, Operand.tmp 63] : Array Operand).map fr9.eval = #[.agg #[.int .i64 N, .int .i64 R, .slice a61 n c61], .agg #[.int .i64 y0, .int .i64 y1, .int .i64 y2, .int .i64 y3, .int .i64 y4]] := by simp only [List.map_toArray, List.map_cons, List.map_nil, Act.eval, e61, e63]
            refine ⟨64, rfl, op_call rfl (run_callL _ _ _ 20 _ _ _ rfl rfl hv9 (enters_of Try.func20 (by kernel_rfl) rfl)) ?_⟩
            refine (c_Cls_v HV.out a61 n c61 _ HL.out hn o61).mono ?_
            rintro e w5 ⟨a5, c5, rfl, o5, g5⟩
            exact ⟨_, rfl, _, rfl, ⟨a5, c5, rfl, row_wider o5 hb.size⟩, grown_below g5⟩
          · exact op_alloc (d := 12) rfl 25 [.int .i64 0, .int .i64 0, .slice none 0 0] _ (Nat.le_refl _) rfl (fun ρ wq => run_alOi _ ρ wq rfl) _
        · intro fq wq hf hbq
          have e60 : fq 60 = .agg #[.int .i64 N, .int .i64 R, .slice a n cap] := hf 60 (by decide)
          obtain ⟨a61, c61, e61, o61⟩ : ∃ (a2 : Option Addr) (c2 : Nat), fq 61 = .agg #[.int .i64 N, .int .i64 R, .slice a2 n c2] ∧ wq.ownsRow w13.heap.size 27 5 (.slice a2 n c2) n (fCells es) := hf 61 (by decide)
          have e62 : fq 62 = .agg #[.int .i64 y0, .int .i64 y1, .int .i64 y2, .int .i64 y3, .int .i64 y4] := hf 62 (by decide)
          have e63 : fq 63 = .agg #[.int .i64 y0, .int .i64 y1, .int .i64 y2, .int .i64 y3, .int .i64 y4] := hf 63 (by decide)
          obtain ⟨a64, c64, e64, o64⟩ : ∃ (a2 : Option Addr) (c2 : Nat), fq 64 = .agg #[.int .i64 v1, .int .i64 v2, .slice a2 v3.length c2] ∧ wq.ownsRow w13.heap.size 27 5 (.slice a2 v3.length c2) v3.length (fCells v3) := hf 64 (by decide)
          obtain ⟨g12, e12, l12, b12⟩ : ∃ g, fq 12 = .pointer (some ⟨g, 0, none⟩) ∧ w13.heap.size ≤ g ∧ Box wq g 25 [.int .i64 0, .int .i64 0, .slice none 0 0] := hf 12 (by decide)
          simp only [List.drop_succ_cons, List.drop_zero, putL, Act.put, List.setIfInBounds_toArray, List.set_cons_succ, List.set_cons_zero, e60, e61, e62, e63, e64, e12]
          clear hf e60 e61 e62 e63 e64 e12
          obtain ⟨y0, y1, y2, yf⟩ := b12.three
          have hne : (Value.slice a64 v3.length c64).ownBlock ≠ some g12 := row_ne o64 b12 (by decide)
          go_upto_region 25 with fail
          obtain ⟨w14, hw14⟩ : ∃ W, W = (((wq.setCell ⟨g12, 0, none⟩ (.int .i64 v1)).setCell ⟨g12, 1, none⟩ (.int .i64 v2)).setCell ⟨g12, 2, none⟩ (.slice a64 v3.length c64)) := ⟨_, rfl⟩
          have hb14 : Below w13.heap.size w13 w14 := by rw [hw14]; exact (((hbq.setCell l12 _).setCell l12 _).setCell l12 _)
          have HW14 := Lib.hid hw14
          have z14 := hb14.size
          have D14 := Lib.hid (Below.step D13.out hb14 (by omega))
          have AW14 := Lib.hid (Below.step AW13.out hb14 (by omega))
          have BP14 := Lib.hid (BP13.out.keep hb14)
          have BQ14 := Lib.hid (BQ13.out.keep hb14)
          have BY14 := Lib.hid (BY13.out.keep hb14)
          have BX014 := Lib.hid (BX013.out.keep hb14)
          have BG14 := Lib.hid (BG13.out.keep hb14)
          have OY14 := Lib.hid (row_below OY13.out hb14)
          have OX014 := Lib.hid (row_below OX013.out hb14)
          have OG14 := Lib.hid (row_below OG13.out hb14)
          have BU14 : Hid (Box w14 g12 25 [.int .i64 v1, .int .i64 v2, .slice a64 v3.length c64]) := Lib.hid (by rw [hw14]; exact (((b12.set 0 _).set 1 _).set 2 _))
          have OU14 : Hid (w14.ownsRow w13.heap.size 27 5 (.slice a64 v3.length c64) v3.length (fCells v3)) := Lib.hid (by rw [hw14]; exact (row_set (row_set (row_set o64 _ _ hne) _ _ hne) _ _ hne))
          have LU := Lib.hid (fun k hk => OU14.out.lt k hk)
          have hgl12 := BU14.out.lt
          clear hw14 hb14 hbq hne y0 y1 y2 yf o61 o64 b12 l12
          rw [← HW14.out]
          clear AW13 BP13 BQ13 BY13 BX013 BG13 OY13 OX013 OG13
          obtain ⟨xU0, xU1, xU2, xUf⟩ := BU14.out.three
          obtain ⟨xY0, xY1, xY2, xYf⟩ := BY14.out.three
          go_wp2_with fail
          refine (c_eqOutlet v1 v2 _ _ v3.length _ _ v3 _ rfl HN3.out (FlwRow.flws OU14.out) (FlwRow.flws OY14.out)).mono ?_; rintro e w15 ⟨rfl, g15⟩
          clear xU0 xU1 xU2 xUf xY0 xY1 xY2 xYf
          have z15 := g15.size
          have D15 := Lib.hid (Below.step D14.out g15 (by omega))
          have AW15 := Lib.hid (Below.step AW14.out g15 (by omega))
          have BP15 := Lib.hid (BP14.out.keep g15)
          have BQ15 := Lib.hid (BQ14.out.keep g15)
          have BY15 := Lib.hid (BY14.out.keep g15)
          have BX015 := Lib.hid (BX014.out.keep g15)
          have BG15 := Lib.hid (BG14.out.keep g15)
          have BU15 := Lib.hid (BU14.out.keep g15)
          have OY15 := Lib.hid (row_below OY14.out g15)
          have OX015 := Lib.hid (row_below OX014.out g15)
          have OG15 := Lib.hid (row_below OG14.out g15)
          have OU15 := Lib.hid (row_below OU14.out g15)
          clear g15
          clear AW14 BP14 BQ14 BY14 BX014 BG14 BU14 OY14 OX014 OG14 OU14
          obtain ⟨xG0, xG1, xG2, xGf⟩ := BG15.out.three
          go_wp2_with fail
          refine (c_heldOutlet v1 v2 _ v3.length _ 1 _ HN3.out (by omega) (by omega) (row_vals OG15.out)).mono ?_; rintro e w16 ⟨rfl, g16⟩
          clear xG0 xG1 xG2 xGf
          have z16 := g16.size
          have D16 := Lib.hid (Below.step D15.out g16 (by omega))
          have AW16 := Lib.hid (Below.step AW15.out g16 (by omega))
          have BP16 := Lib.hid (BP15.out.keep g16)
          have BQ16 := Lib.hid (BQ15.out.keep g16)
          have BY16 := Lib.hid (BY15.out.keep g16)
          have BX016 := Lib.hid (BX015.out.keep g16)
          have BG16 := Lib.hid (BG15.out.keep g16)
          have BU16 := Lib.hid (BU15.out.keep g16)
          have OY16 := Lib.hid (row_below OY15.out g16)
          have OX016 := Lib.hid (row_below OX015.out g16)
          have OG16 := Lib.hid (row_below OG15.out g16)
          have OU16 := Lib.hid (row_below OU15.out g16)
          clear g16
          clear AW15 BP15 BQ15 BY15 BX015 BG15 BU15 OY15 OX015 OG15 OU15
          go_wp2_with fail
          go_ret
          exact ⟨rfl, D16.out⟩
end Go.Proofs.Ytalalapjanckdaa
