/- The walk of the exact law of SendOut, where it hands back an outlet with slots. No condition but what is said. The text is written by a program (wip/ex_snd.py). -/
import Derived.Test.YtalalapjanckdaaMC
import Derived.Test.YtalalapjanckdaaOutL
import Derived.Test.YtalalapjanckdaaOpO
namespace Go.Proofs.Ytalalapjanckdaa
open Go.RowKit
/-- As RetOF, without the last. -/
def RetOF' (w : World) (q : O3 × F5 × Bool) (e : Ending) (w' : World) : Prop :=
  ∃ (a : Option Addr) (cap : Nat), e = .returned (.tuple #[.agg #[.int .i64 q.1.1, .int .i64 q.1.2.1, .slice a q.1.2.2.length cap], fvv q.2.1, .bool q.2.2]) ∧ w'.ownsRow w.heap.size 27 5 (.slice a q.1.2.2.length cap) q.1.2.2.length (fCells q.1.2.2) ∧ w.grownBy w' none
theorem s_Snd_v {N R : Int} {fs : List F5} {f : F5} {v1 v2 : Int} {v3 : List F5} {u : F5} {vb : Bool} (hv : sendT (N, R, fs) f = ((v1, v2, v3), u, vb)) (a : Option Addr) (n cap : Nat) (w : World) (hxs : fs.length = n) (hn : n ≤ 1048576) {B : Nat} (o : w.ownsRow B 27 5 (.slice a n cap) n (fCells fs)) :
    Calls Try.prog 13 #[.agg #[.int .i64 N, .int .i64 R, .slice a n cap], fvv f] w (RetOF' w ((v1, v2, v3), u, vb)) := by
  have := s_SendOut N R f a n cap fs w hxs hn (FlwRow.flws o) (own_none o)
  rw [hv] at this
  refine this.mono ?_
  rintro e w' ⟨a', c', h1, h2, h3, _⟩
  exact ⟨a', c', h1, h2, h3⟩
theorem c_Snd_v {N R : Int} {fs : List F5} {f : F5} {v1 v2 : Int} {v3 : List F5} {u : F5} {vb : Bool} (hv : sendT (N, R, fs) f = ((v1, v2, v3), u, vb)) (a : Option Addr) (n cap : Nat) (w : World) (hxs : fs.length = n) (hn : n ≤ 1048576) {B : Nat} (o : w.ownsRow B 27 5 (.slice a n cap) n (fCells fs)) :
    Calls Try.prog 12 #[.agg #[.int .i64 N, .int .i64 R, .slice a n cap], fvv f] w (RetOF' w ((v1, v2, v3), u, vb)) := by
  have := c_SendOut N R f a n cap fs w hxs hn (FlwRow.flws o) (own_none o)
  rw [hv] at this
  refine this.mono ?_
  rintro e w' ⟨a', c', h1, h2, h3, _⟩
  exact ⟨a', c', h1, h2, h3⟩
theorem s_Snd_z {N R : Int} {fs : List F5} {f : F5} (hv : sendT (N, R, fs) f = ((0, 0, []), z5, false)) (a : Option Addr) (n cap : Nat) (w : World) (hxs : fs.length = n) (hn : n ≤ 1048576) {B : Nat} (o : w.ownsRow B 27 5 (.slice a n cap) n (fCells fs)) :
    Calls Try.prog 13 #[.agg #[.int .i64 N, .int .i64 R, .slice a n cap], fvv f] w fun e w' => e = .returned (.tuple #[.agg #[.int .i64 0, .int .i64 0, .slice none 0 0], .agg #[.int .i64 0, .int .i64 0, .int .i64 0, .int .i64 0, .int .i64 0], .bool false]) ∧ Below w.heap.size w w' := by
  have := s_SendOut N R f a n cap fs w hxs hn (FlwRow.flws o) (own_none o)
  rw [hv] at this
  refine this.mono ?_
  rintro e w' ⟨a', c', h1, h2, h3, h4⟩
  obtain ⟨rfl, rfl⟩ := h4 rfl
  exact ⟨h1, grown_below h3⟩
theorem c_Snd_z {N R : Int} {fs : List F5} {f : F5} (hv : sendT (N, R, fs) f = ((0, 0, []), z5, false)) (a : Option Addr) (n cap : Nat) (w : World) (hxs : fs.length = n) (hn : n ≤ 1048576) {B : Nat} (o : w.ownsRow B 27 5 (.slice a n cap) n (fCells fs)) :
    Calls Try.prog 12 #[.agg #[.int .i64 N, .int .i64 R, .slice a n cap], fvv f] w fun e w' => e = .returned (.tuple #[.agg #[.int .i64 0, .int .i64 0, .slice none 0 0], .agg #[.int .i64 0, .int .i64 0, .int .i64 0, .int .i64 0, .int .i64 0], .bool false]) ∧ Below w.heap.size w w' := by
  have := c_SendOut N R f a n cap fs w hxs hn (FlwRow.flws o) (own_none o)
  rw [hv] at this
  refine this.mono ?_
  rintro e w' ⟨a', c', h1, h2, h3, h4⟩
  obtain ⟨rfl, rfl⟩ := h4 rfl
  exact ⟨h1, grown_below h3⟩
theorem send_facts (N R : Int) (fs : List F5) (f : F5) : (sendT (N, R, fs) f).1.2.2.length ≤ fs.length ∧ (sendT (N, R, fs) f).1.2.2 ≠ [z5] ∧ (sendT (N, R, fs) f = ((0, 0, []), z5, false) ∨ 0 < (sendT (N, R, fs) f).1.2.2.length) := by
  unfold sendT
  split
  · rename_i hb
    simp only [Bool.and_eq_true] at hb
    have hn := inB_true.1 (ov_parts hb.1).2.1
    split
    · rename_i hs
      refine ⟨Nat.le_refl _, ?_, .inr (by show 0 < fs.length; omega)⟩
      intro he
      have he' : fs = [z5] := he
      subst he'
      have hfz : f ≠ z5 := fv_ne hb.2
      rcases slT_cases [z5] f with h | ⟨k, h, _⟩
      · unfold slT at h
        have h0 : qOf [z5] z5 = 0 := rfl
        split at h
        · omega
        · omega
      · dsimp only at hs; omega
    · refine ⟨by show (fs.set _ _).length ≤ _; rw [List.length_set]; exact Nat.le_refl _, ?_, .inr (by show 0 < (fs.set _ _).length; rw [List.length_set]; omega)⟩
      intro he
      have he' : fs.set (slT fs f).toNat f = [z5] := he
      rename_i hs
      rcases slT_cases fs f with h | ⟨k, h, hk⟩
      · dsimp only at hs; omega
      · rw [h] at he'
        have h1 : f ∈ fs.set ((k : Int)).toNat f := List.mem_iff_getElem.2 ⟨k, by rw [List.length_set]; exact hk, by simp⟩
        rw [he'] at h1
        exact fv_ne hb.2 (by simpa using h1)
  · exact ⟨Nat.zero_le _, by simp, .inl rfl⟩
set_option maxHeartbeats 8000000 in
set_option maxRecDepth 100000 in
theorem sendN (N R : Int) (a : Option Addr) (n cap : Nat) (fs : List F5) (y0 y1 y2 y3 y4 : Int) (w : World) (hL : fs.length = n) (hn : n ≤ 1048576) (hI : Flws w a fs) {v1 v2 : Int} {v3 : List F5} {u0 u1 u2 u3 u4 : Int} {vb : Bool} (hv : sendT (N, R, fs) (y0, y1, y2, y3, y4) = ((v1, v2, v3), (u0, u1, u2, u3, u4), vb)) (h0 : 0 < v3.length) :
    Calls Try.prog 6 #[.agg #[.int .i64 N, .int .i64 R, .slice a n cap], .agg #[.int .i64 y0, .int .i64 y1, .int .i64 y2, .int .i64 y3, .int .i64 y4]] w fun e w' => e = .returned (.bool true) ∧ Below w.heap.size w w' := by
  have hn0 : (n : Int) ≤ 1048576 := by omega
  have HL := Lib.hid hL
  have HN3 : Hid (v3.length ≤ 1048576) := Lib.hid (by
    have := (send_facts N R fs (y0, y1, y2, y3, y4)).1
    rw [hv, hL] at this
    exact Nat.le_trans this hn)
  have HNE : Hid (v3 ≠ [z5]) := Lib.hid (by
    have := (send_facts N R fs (y0, y1, y2, y3, y4)).2.1
    rw [hv] at this
    exact this)
  have hn3 := HN3.out
  have HV := Lib.hid hv
  clear hv hL
  have D0 := Lib.hid (Below.refl w.heap.size w)
  go_enter Try.func6, Try.ntmps6
  have AW0 := Lib.hid (Below.refl w.heap.size w)
  have RI := Lib.hid hI
  clear hI
  obtain ⟨w1, hw1, hb1, hz1, hx1⟩ : ∃ W, W = w.alloc (.cells #[.int .i64 N, .int .i64 R, .slice a n cap] 37) ∧ Below w.heap.size w W ∧ W.heap.size = w.heap.size + 1 ∧ Box W w.heap.size 37 [.int .i64 N, .int .i64 R, .slice a n cap] := head1 w 37 _
  have q1 := hz1
  have HW1 := Lib.hid hw1
  have z1 : w.heap.size + 1 ≤ w1.heap.size := by omega
  have D1 := Lib.hid (Below.step D0.out hb1 (by omega))
  have AW1 := Lib.hid (Below.step AW0.out hb1 (by omega))
  have BP1 := Lib.hid hx1
  clear hw1 hb1 hz1 hx1
  obtain ⟨w2, hw2, hb2, hz2, hx2⟩ : ∃ W, W = w1.alloc (.cells #[.int .i64 y0, .int .i64 y1, .int .i64 y2, .int .i64 y3, .int .i64 y4] 38) ∧ Below w1.heap.size w1 W ∧ W.heap.size = w1.heap.size + 1 ∧ Box W w1.heap.size 38 [.int .i64 y0, .int .i64 y1, .int .i64 y2, .int .i64 y3, .int .i64 y4] := head1 w1 38 _
  rw [q1] at hx2
  have q2 := hz2
  have HW2 := Lib.hid hw2
  have z2 : w1.heap.size + 1 ≤ w2.heap.size := by omega
  have D2 := Lib.hid (Below.step D1.out hb2 (by omega))
  have AW2 := Lib.hid (Below.step AW1.out hb2 (by omega))
  have BP2 := Lib.hid (BP1.out.keep hb2)
  have BQ2 := Lib.hid hx2
  clear hw2 hb2 hz2 hx2
  go_wp2_with fail
  rw [← HW1.out]
  rw [← HW2.out]
  refine (c_szOutlet N R a n cap 1048576 _ (by omega) hn0).mono ?_; rintro e w3 ⟨rfl, g3⟩
  have z3 := g3.size
  have D3 := Lib.hid (Below.step D2.out g3 (by omega))
  have AW3 := Lib.hid (Below.step AW2.out g3 (by omega))
  have BP3 := Lib.hid (BP2.out.keep g3)
  have BQ3 := Lib.hid (BQ2.out.keep g3)
  clear g3
  clear AW0
  clear AW1 BP1
  clear AW2 BP2 BQ2
  have hsz : ¬ (1048576 - (n : Int) < 0) := by omega
  go_upto_region 5 with fail
  obtain ⟨hfr, hdi⟩ := bs_one (x := ⟨6, 25, [.int .i64 0, .int .i64 0, .slice none 0 0], .row w3.heap.size 27 5 v3.length (fCells v3) (fun s => .agg #[.int .i64 v1, .int .i64 v2, s])⟩) (by kernel_rfl)
  refine region_anyP _ 12 128 [25, 26, 27, 28, 29, 24, 30, 31, 32, 6, 7] [⟨6, 25, [.int .i64 0, .int .i64 0, .slice none 0 0], .row w3.heap.size 27 5 v3.length (fCells v3) (fun s => .agg #[.int .i64 v1, .int .i64 v2, s])⟩] [(25, .val (.agg #[.int .i64 N, .int .i64 R, .slice a n cap])), (26, .row w3.heap.size 27 5 n (fCells fs) (fun s => .agg #[.int .i64 N, .int .i64 R, s])), (27, .val (.agg #[.int .i64 y0, .int .i64 y1, .int .i64 y2, .int .i64 y3, .int .i64 y4])), (28, .val (.agg #[.int .i64 y0, .int .i64 y1, .int .i64 y2, .int .i64 y3, .int .i64 y4])), (29, .row w3.heap.size 27 5 v3.length (fCells v3) (fun s => .tuple #[.agg #[.int .i64 v1, .int .i64 v2, s], .agg #[.int .i64 u0, .int .i64 u1, .int .i64 u2, .int .i64 u3, .int .i64 u4], .bool vb])), (24, .row w3.heap.size 27 5 v3.length (fCells v3) (fun s => .tuple #[.agg #[.int .i64 v1, .int .i64 v2, s], .agg #[.int .i64 u0, .int .i64 u1, .int .i64 u2, .int .i64 u3, .int .i64 u4], .bool vb])), (30, .row w3.heap.size 27 5 v3.length (fCells v3) (fun s => .agg #[.int .i64 v1, .int .i64 v2, s])), (31, .val (.agg #[.int .i64 u0, .int .i64 u1, .int .i64 u2, .int .i64 u3, .int .i64 u4])), (32, .val (.bool vb)), (7, .bx w3.heap.size 27 [.int .i64 0, .int .i64 0, .int .i64 0, .int .i64 0, .int .i64 0])] [8] rfl (by kernel_rfl) hfr (spAt_free (by kernel_rfl)) hdi (by kernel_rfl) (fun _ _ _ _ _ h => h) ?_ ?_ ?_
  · clear hfr hdi
    intro i9 o9 hi9 ho9 fr9 wq hd
    rw [List.mem_singleton.1 hi9] at ho9
    injection ho9 with ho9
    subst ho9
    obtain ⟨a24, c24, e24, o24⟩ : ∃ (a2 : Option Addr) (c2 : Nat), fr9.tmps.getD 24 undef = .tuple #[.agg #[.int .i64 v1, .int .i64 v2, .slice a2 v3.length c2], .agg #[.int .i64 u0, .int .i64 u1, .int .i64 u2, .int .i64 u3, .int .i64 u4], .bool vb] ∧ wq.ownsRow w3.heap.size 27 5 (.slice a2 v3.length c2) v3.length (fCells v3) := hd 24 (by kernel_rfl)
    exact ⟨32, _, rfl, .inl ⟨rfl, fun w9 => run_ext _ _ w9 (.tmp 24) 2 _ _ rfl e24 rfl⟩, rfl⟩
  · clear hfr hdi
    refine ⟨?_, ?_, ?_, ?_, ?_, ?_, ?_, ?_, ?_, ?_, ?_, ?_, trivial⟩
    · refine opS_any (d := 25) rfl rfl (by kernel_rfl) ?_
      refine op_val (d := 25) rfl (.agg #[.int .i64 N, .int .i64 R, .slice a n cap]) (fun fr9 wq hf _ hb => ⟨?_, ?_⟩) _
      rotate_left
      · exact rfl
      exact run_ldOl _ _ _ (.tmp 2) _ _ _ _ rfl (hf 2 (by kernel_rfl)) (BP3.out.keep hb)
    · refine opS_any (d := 26) rfl rfl (by kernel_rfl) ?_
      intro fr9 wq hf hd hb
      have e25 : fr9.tmps.getD 25 undef = .agg #[.int .i64 N, .int .i64 R, .slice a n cap] := hd 25 (by kernel_rfl)
      have hv9 : (#[Operand.tmp 25] : Array Operand).map fr9.eval = #[.agg #[.int .i64 N, .int .i64 R, .slice a n cap]] := by simp only [List.map_toArray, List.map_cons, List.map_nil, Act.eval, e25]
      refine ⟨26, rfl, op_call rfl (run_callL _ _ _ 18 _ _ _ rfl rfl hv9 (enters_of Try.func18 (by kernel_rfl) rfl)) ?_⟩
      refine (c_toOutlet N R a n cap fs _ HL.out hn ((RI.out.below AW3.out).below hb)).mono ?_
      rintro e w5 ⟨a5, c5, rfl, o5, g5⟩
      exact ⟨_, rfl, _, rfl, ⟨a5, c5, rfl, row_wider o5 hb.size⟩, grown_below g5⟩
    · refine opS_any (d := 27) rfl rfl (by kernel_rfl) ?_
      refine op_val (d := 27) rfl (.agg #[.int .i64 y0, .int .i64 y1, .int .i64 y2, .int .i64 y3, .int .i64 y4]) (fun fr9 wq hf _ hb => ⟨?_, ?_⟩) _
      rotate_left
      · exact rfl
      exact run_ldFl _ _ _ (.tmp 3) _ _ _ _ _ _ rfl (hf 3 (by kernel_rfl)) (BQ3.out.keep hb)
    · refine opS_any (d := 28) rfl rfl (by kernel_rfl) ?_
      intro fr9 wq hf hd hb
      have e27 : fr9.tmps.getD 27 undef = .agg #[.int .i64 y0, .int .i64 y1, .int .i64 y2, .int .i64 y3, .int .i64 y4] := hd 27 (by kernel_rfl)
      have hv9 : (#[Operand.tmp 27] : Array Operand).map fr9.eval = #[.agg #[.int .i64 y0, .int .i64 y1, .int .i64 y2, .int .i64 y3, .int .i64 y4]] := by simp only [List.map_toArray, List.map_cons, List.map_nil, Act.eval, e27]
      refine ⟨28, rfl, op_call rfl (run_callL _ _ _ 19 _ _ _ rfl rfl hv9 (enters_of Try.func19 (by kernel_rfl) rfl)) ?_⟩
      refine (c_toFlow y0 y1 y2 y3 y4 _).mono ?_
      rintro e w5 ⟨rfl, g5⟩
      exact ⟨_, rfl, _, rfl, rfl, g5⟩
    · refine opS_any (d := 29) rfl rfl (by kernel_rfl) ?_
      intro fr9 wq hf hd hb
      obtain ⟨a26, c26, e26, o26⟩ : ∃ (a2 : Option Addr) (c2 : Nat), fr9.tmps.getD 26 undef = .agg #[.int .i64 N, .int .i64 R, .slice a2 n c2] ∧ wq.ownsRow w3.heap.size 27 5 (.slice a2 n c2) n (fCells fs) := hd 26 (by kernel_rfl)
      have e28 : fr9.tmps.getD 28 undef = .agg #[.int .i64 y0, .int .i64 y1, .int .i64 y2, .int .i64 y3, .int .i64 y4] := hd 28 (by kernel_rfl)
      have hv9 : (#[Operand.tmp 26, Operand.tmp 28] : Array Operand).map fr9.eval = #[.agg #[.int .i64 N, .int .i64 R, .slice a26 n c26], .agg #[.int .i64 y0, .int .i64 y1, .int .i64 y2, .int .i64 y3, .int .i64 y4]] := by simp only [List.map_toArray, List.map_cons, List.map_nil, Act.eval, e26, e28]
      refine ⟨29, rfl, op_call rfl (run_callL _ _ _ 13 _ _ _ rfl rfl hv9 (enters_of Try.func13 (by kernel_rfl) rfl)) ?_⟩
      refine (s_Snd_v HV.out a26 n c26 _ HL.out hn o26).mono ?_
      rintro e w5 ⟨a5, c5, rfl, o5, g5⟩
      exact ⟨_, rfl, _, rfl, ⟨a5, c5, rfl, row_wider o5 hb.size⟩, grown_below g5⟩
    · refine opS_any (d := 24) rfl rfl (by kernel_rfl) ?_
      intro fr9 wq hf hd hb
      obtain ⟨a29, c29, e29, o29⟩ : ∃ (a2 : Option Addr) (c2 : Nat), fr9.tmps.getD 29 undef = .tuple #[.agg #[.int .i64 v1, .int .i64 v2, .slice a2 v3.length c2], .agg #[.int .i64 u0, .int .i64 u1, .int .i64 u2, .int .i64 u3, .int .i64 u4], .bool vb] ∧ wq.ownsRow w3.heap.size 27 5 (.slice a2 v3.length c2) v3.length (fCells v3) := hd 29 (by kernel_rfl)
      exact ⟨24, rfl, wp_val2 rfl ((run_mv _ _ _ (.tmp 29) _ e29).1 rfl) ⟨_, rfl, ⟨a29, c29, rfl, o29⟩, Below.refl _ _⟩⟩
    · refine opS_any (d := 30) rfl rfl (by kernel_rfl) ?_
      intro fr9 wq hf hd hb
      obtain ⟨a24, c24, e24, o24⟩ : ∃ (a2 : Option Addr) (c2 : Nat), fr9.tmps.getD 24 undef = .tuple #[.agg #[.int .i64 v1, .int .i64 v2, .slice a2 v3.length c2], .agg #[.int .i64 u0, .int .i64 u1, .int .i64 u2, .int .i64 u3, .int .i64 u4], .bool vb] ∧ wq.ownsRow w3.heap.size 27 5 (.slice a2 v3.length c2) v3.length (fCells v3) := hd 24 (by kernel_rfl)
      exact ⟨30, rfl, wp_val2 rfl (run_ext _ _ _ (.tmp 24) 0 _ _ rfl e24 rfl) ⟨_, rfl, ⟨a24, c24, rfl, o24⟩, Below.refl _ _⟩⟩
    · refine opS_any (d := 31) rfl rfl (by kernel_rfl) ?_
      intro fr9 wq hf hd hb
      obtain ⟨a24, c24, e24, o24⟩ : ∃ (a2 : Option Addr) (c2 : Nat), fr9.tmps.getD 24 undef = .tuple #[.agg #[.int .i64 v1, .int .i64 v2, .slice a2 v3.length c2], .agg #[.int .i64 u0, .int .i64 u1, .int .i64 u2, .int .i64 u3, .int .i64 u4], .bool vb] ∧ wq.ownsRow w3.heap.size 27 5 (.slice a2 v3.length c2) v3.length (fCells v3) := hd 24 (by kernel_rfl)
      exact ⟨31, rfl, wp_val2 rfl (run_ext _ _ _ (.tmp 24) 1 _ _ rfl e24 rfl) ⟨_, rfl, rfl, Below.refl _ _⟩⟩
    · refine opS_any (d := 32) rfl rfl (by kernel_rfl) ?_
      intro fr9 wq hf hd hb
      obtain ⟨a24, c24, e24, o24⟩ : ∃ (a2 : Option Addr) (c2 : Nat), fr9.tmps.getD 24 undef = .tuple #[.agg #[.int .i64 v1, .int .i64 v2, .slice a2 v3.length c2], .agg #[.int .i64 u0, .int .i64 u1, .int .i64 u2, .int .i64 u3, .int .i64 u4], .bool vb] ∧ wq.ownsRow w3.heap.size 27 5 (.slice a2 v3.length c2) v3.length (fCells v3) := hd 24 (by kernel_rfl)
      exact ⟨32, rfl, wp_val2 rfl (run_ext _ _ _ (.tmp 24) 2 _ _ rfl e24 rfl) ⟨_, rfl, rfl, Below.refl _ _⟩⟩
    · exact opS_alloc (d := 6) rfl rfl (fun ρ wq => run_alOi _ ρ wq rfl) _
    · refine opS_any (d := 7) rfl rfl (by kernel_rfl) ?_
      exact op_alloc (d := 7) rfl 27 [.int .i64 0, .int .i64 0, .int .i64 0, .int .i64 0, .int .i64 0] _ (Nat.le_refl _) rfl (fun ρ wq => run_alFi _ ρ wq rfl) _
    · exact opS_store 6 30 25 rfl rfl rfl rfl (by kernel_rfl) (by kernel_rfl) rfl (fun ρ wq g cs u hx hy hb hc hu => st_outlet rfl g cs u hx hy hb hc hu) _
  · clear hfr hdi
    intro fq wq hf hbq
    have e25 : fq 25 = .agg #[.int .i64 N, .int .i64 R, .slice a n cap] := hf 25 (by decide)
    obtain ⟨a26, c26, e26, o26⟩ : ∃ (a2 : Option Addr) (c2 : Nat), fq 26 = .agg #[.int .i64 N, .int .i64 R, .slice a2 n c2] ∧ wq.ownsRow w3.heap.size 27 5 (.slice a2 n c2) n (fCells fs) := hf 26 (by decide)
    clear o26
    have e27 : fq 27 = .agg #[.int .i64 y0, .int .i64 y1, .int .i64 y2, .int .i64 y3, .int .i64 y4] := hf 27 (by decide)
    have e28 : fq 28 = .agg #[.int .i64 y0, .int .i64 y1, .int .i64 y2, .int .i64 y3, .int .i64 y4] := hf 28 (by decide)
    obtain ⟨a29, c29, e29, o29⟩ : ∃ (a2 : Option Addr) (c2 : Nat), fq 29 = .tuple #[.agg #[.int .i64 v1, .int .i64 v2, .slice a2 v3.length c2], .agg #[.int .i64 u0, .int .i64 u1, .int .i64 u2, .int .i64 u3, .int .i64 u4], .bool vb] ∧ wq.ownsRow w3.heap.size 27 5 (.slice a2 v3.length c2) v3.length (fCells v3) := hf 29 (by decide)
    clear o29
    obtain ⟨a24, c24, e24, o24⟩ : ∃ (a2 : Option Addr) (c2 : Nat), fq 24 = .tuple #[.agg #[.int .i64 v1, .int .i64 v2, .slice a2 v3.length c2], .agg #[.int .i64 u0, .int .i64 u1, .int .i64 u2, .int .i64 u3, .int .i64 u4], .bool vb] ∧ wq.ownsRow w3.heap.size 27 5 (.slice a2 v3.length c2) v3.length (fCells v3) := hf 24 (by decide)
    clear o24
    obtain ⟨a30, c30, e30, o30⟩ : ∃ (a2 : Option Addr) (c2 : Nat), fq 30 = .agg #[.int .i64 v1, .int .i64 v2, .slice a2 v3.length c2] ∧ wq.ownsRow w3.heap.size 27 5 (.slice a2 v3.length c2) v3.length (fCells v3) := hf 30 (by decide)
    clear o30
    have e31 : fq 31 = .agg #[.int .i64 u0, .int .i64 u1, .int .i64 u2, .int .i64 u3, .int .i64 u4] := hf 31 (by decide)
    have e32 : fq 32 = .bool vb := hf 32 (by decide)
    obtain ⟨g6, a6, c6, e6, l6, b6, o6⟩ : ∃ (g : Nat) (a2 : Option Addr) (c2 : Nat), fq 6 = .pointer (some ⟨g, 0, none⟩) ∧ w3.heap.size ≤ g ∧ Box wq g 25 (Value.cells (.agg #[.int .i64 v1, .int .i64 v2, .slice a2 v3.length c2])).toList ∧ wq.ownsRow w3.heap.size 27 5 (.slice a2 v3.length c2) v3.length (fCells v3) := by
      obtain ⟨g, u, h1, h2, h3, a2, c2, rfl, h4⟩ := hf 6 (by decide)
      exact ⟨g, a2, c2, h1, h2, h3, h4⟩
    obtain ⟨g7, e7, l7, b7⟩ : ∃ g, fq 7 = .pointer (some ⟨g, 0, none⟩) ∧ w3.heap.size ≤ g ∧ Box wq g 27 [.int .i64 0, .int .i64 0, .int .i64 0, .int .i64 0, .int .i64 0] := hf 7 (by decide)
    simp only [List.drop_succ_cons, List.drop_zero, putL, Act.put, List.setIfInBounds_toArray, List.set_cons_succ, List.set_cons_zero, e25, e26, e27, e28, e29, e24, e30, e31, e32, e6, e7]
    clear hf e25 e26 e27 e28 e29 e24 e30 e31 e32 e6 e7
    have hne : (Value.slice a6 v3.length c6).ownBlock ≠ some g7 := row_ne5 o6 b7 HNE.out (by omega)
    obtain ⟨y0, y1, y2, y3, y4, yf⟩ := b7.five
    go_upto_region 6 with fail
    obtain ⟨w4, hw4⟩ : ∃ W, W = (((((wq.setCell ⟨g7, 0, none⟩ (.int .i64 u0)).setCell ⟨g7, 1, none⟩ (.int .i64 u1)).setCell ⟨g7, 2, none⟩ (.int .i64 u2)).setCell ⟨g7, 3, none⟩ (.int .i64 u3)).setCell ⟨g7, 4, none⟩ (.int .i64 u4)) := ⟨_, rfl⟩
    have hb4 : Below w3.heap.size w3 w4 := by rw [hw4]; exact (((((hbq.setCell l7 _).setCell l7 _).setCell l7 _).setCell l7 _).setCell l7 _)
    have HW4 := Lib.hid hw4
    have z4 := hb4.size
    have D4 := Lib.hid (Below.step D3.out hb4 (by omega))
    have AW4 := Lib.hid (Below.step AW3.out hb4 (by omega))
    have BP4 := Lib.hid (BP3.out.keep hb4)
    have BQ4 := Lib.hid (BQ3.out.keep hb4)
    have BFY4 : Hid (Box w4 g7 27 [.int .i64 u0, .int .i64 u1, .int .i64 u2, .int .i64 u3, .int .i64 u4]) := Lib.hid (by rw [hw4]; exact (((((b7.set 0 _).set 1 _).set 2 _).set 3 _).set 4 _))
    have hgl7 := BFY4.out.lt
    have hnb : g6 ≠ g7 := fun e => by subst e; exact absurd (box_type b6 b7) (by decide)
    have BY4 : Hid (Box w4 g6 25 [.int .i64 v1, .int .i64 v2, .slice a6 v3.length c6]) := Lib.hid (by rw [hw4]; exact (((((b6.other hnb _).other hnb _).other hnb _).other hnb _).other hnb _))
    have hgl6 := BY4.out.lt
    clear b6 hnb
    have OY4 : Hid (w4.ownsRow w3.heap.size 27 5 (.slice a6 v3.length c6) v3.length (fCells v3)) := Lib.hid (by rw [hw4]; exact (row_set (row_set (row_set (row_set (row_set o6 _ _ hne) _ _ hne) _ _ hne) _ _ hne) _ _ hne))
    have LY := Lib.hid (fun k hk => OY4.out.lt k hk)
    have SYxFY := Lib.hid hne
    clear o6
    clear hw4 hb4 hbq y0 y1 y2 y3 y4 yf b7 hne
    rw [← HW4.out]
    clear AW3 BP3 BQ3
    obtain ⟨xP0, xP1, xP2, xPf⟩ := BP4.out.three
    go_wp2_with fail
    refine (c_toOutlet N R a n cap fs _ HL.out hn (RI.out.below AW4.out)).mono ?_; rintro e w5 ⟨a5, c5, rfl, o5, g5⟩
    clear xP0 xP1 xP2 xPf
    have z5 := (grown_below g5).size
    have D5 := Lib.hid (Below.step D4.out (grown_below g5) (by omega))
    have AW5 := Lib.hid (Below.step AW4.out (grown_below g5) (by omega))
    have BP5 := Lib.hid (BP4.out.keep (grown_below g5))
    have BQ5 := Lib.hid (BQ4.out.keep (grown_below g5))
    have BFY5 := Lib.hid (BFY4.out.keep (grown_below g5))
    have BY5 := Lib.hid (BY4.out.keep (grown_below g5))
    have OY5 := Lib.hid (row_below OY4.out (grown_below g5))
    have OX05 := Lib.hid o5
    have LX0 := Lib.hid (fun k hk => o5.lt k hk)
    clear g5 o5
    clear AW4 BP4 BQ4 BFY4 BY4 OY4
    obtain ⟨w6, hw6, hb6, hz6, hx6⟩ : ∃ W, W = w5.alloc (.cells #[.int .i64 N, .int .i64 R, .slice a5 n c5] 25) ∧ Below w5.heap.size w5 W ∧ W.heap.size = w5.heap.size + 1 ∧ Box W w5.heap.size 25 [.int .i64 N, .int .i64 R, .slice a5 n c5] := head1 w5 25 _
    have q6 := hz6
    have HW6 := Lib.hid hw6
    have z6 : w5.heap.size + 1 ≤ w6.heap.size := by omega
    have D6 := Lib.hid (Below.step D5.out hb6 (by omega))
    have AW6 := Lib.hid (Below.step AW5.out hb6 (by omega))
    have BP6 := Lib.hid (BP5.out.keep hb6)
    have BQ6 := Lib.hid (BQ5.out.keep hb6)
    have BFY6 := Lib.hid (BFY5.out.keep hb6)
    have BY6 := Lib.hid (BY5.out.keep hb6)
    have OY6 := Lib.hid (row_below OY5.out hb6)
    have OX06 := Lib.hid (row_below OX05.out hb6)
    have BX06 := Lib.hid hx6
    clear hw6 hb6 hz6 hx6
    go_upto_region 7 with fail
    rw [← HW6.out]
    obtain ⟨hfr, hdi⟩ := bs_one (x := ⟨10, 25, [.int .i64 0, .int .i64 0, .slice none 0 0], .row w6.heap.size 27 5 v3.length (fCells v3) (fun s => .agg #[.int .i64 v1, .int .i64 v2, s])⟩) (by kernel_rfl)
    refine region_anyP _ 11 128 [36, 37, 38, 39, 35, 40, 41, 42, 10, 11] [⟨10, 25, [.int .i64 0, .int .i64 0, .slice none 0 0], .row w6.heap.size 27 5 v3.length (fCells v3) (fun s => .agg #[.int .i64 v1, .int .i64 v2, s])⟩] [(36, .val (.agg #[.int .i64 N, .int .i64 R, .slice a5 n c5])), (37, .val (.agg #[.int .i64 y0, .int .i64 y1, .int .i64 y2, .int .i64 y3, .int .i64 y4])), (38, .val (.agg #[.int .i64 y0, .int .i64 y1, .int .i64 y2, .int .i64 y3, .int .i64 y4])), (39, .row w6.heap.size 27 5 v3.length (fCells v3) (fun s => .tuple #[.agg #[.int .i64 v1, .int .i64 v2, s], .agg #[.int .i64 u0, .int .i64 u1, .int .i64 u2, .int .i64 u3, .int .i64 u4], .bool vb])), (35, .row w6.heap.size 27 5 v3.length (fCells v3) (fun s => .tuple #[.agg #[.int .i64 v1, .int .i64 v2, s], .agg #[.int .i64 u0, .int .i64 u1, .int .i64 u2, .int .i64 u3, .int .i64 u4], .bool vb])), (40, .row w6.heap.size 27 5 v3.length (fCells v3) (fun s => .agg #[.int .i64 v1, .int .i64 v2, s])), (41, .val (.agg #[.int .i64 u0, .int .i64 u1, .int .i64 u2, .int .i64 u3, .int .i64 u4])), (42, .val (.bool vb)), (11, .bx w6.heap.size 27 [.int .i64 0, .int .i64 0, .int .i64 0, .int .i64 0, .int .i64 0])] [7] rfl (by kernel_rfl) hfr (spAt_free (by kernel_rfl)) hdi (by kernel_rfl) (fun _ _ _ _ _ h => h) ?_ ?_ ?_
    · clear hfr hdi
      intro i9 o9 hi9 ho9 fr9 wq hd
      rw [List.mem_singleton.1 hi9] at ho9
      injection ho9 with ho9
      subst ho9
      obtain ⟨a35, c35, e35, o35⟩ : ∃ (a2 : Option Addr) (c2 : Nat), fr9.tmps.getD 35 undef = .tuple #[.agg #[.int .i64 v1, .int .i64 v2, .slice a2 v3.length c2], .agg #[.int .i64 u0, .int .i64 u1, .int .i64 u2, .int .i64 u3, .int .i64 u4], .bool vb] ∧ wq.ownsRow w6.heap.size 27 5 (.slice a2 v3.length c2) v3.length (fCells v3) := hd 35 (by kernel_rfl)
      exact ⟨42, _, rfl, .inl ⟨rfl, fun w9 => run_ext _ _ w9 (.tmp 35) 2 _ _ rfl e35 rfl⟩, rfl⟩
    · clear hfr hdi
      refine ⟨?_, ?_, ?_, ?_, ?_, ?_, ?_, ?_, ?_, ?_, ?_, trivial⟩
      · refine opS_any (d := 36) rfl rfl (by kernel_rfl) ?_
        refine op_val (d := 36) rfl (.agg #[.int .i64 N, .int .i64 R, .slice a5 n c5]) (fun fr9 wq hf _ hb => ⟨?_, ?_⟩) _
        rotate_left
        · exact rfl
        exact run_ldOi _ _ _ (.tmp 9) _ _ _ _ rfl (hf 9 (by kernel_rfl)) (BX06.out.keep hb)
      · refine opS_any (d := 37) rfl rfl (by kernel_rfl) ?_
        refine op_val (d := 37) rfl (.agg #[.int .i64 y0, .int .i64 y1, .int .i64 y2, .int .i64 y3, .int .i64 y4]) (fun fr9 wq hf _ hb => ⟨?_, ?_⟩) _
        rotate_left
        · exact rfl
        exact run_ldFl _ _ _ (.tmp 3) _ _ _ _ _ _ rfl (hf 3 (by kernel_rfl)) (BQ6.out.keep hb)
      · refine opS_any (d := 38) rfl rfl (by kernel_rfl) ?_
        intro fr9 wq hf hd hb
        have e37 : fr9.tmps.getD 37 undef = .agg #[.int .i64 y0, .int .i64 y1, .int .i64 y2, .int .i64 y3, .int .i64 y4] := hd 37 (by kernel_rfl)
        have hv9 : (#[Operand.tmp 37] : Array Operand).map fr9.eval = #[.agg #[.int .i64 y0, .int .i64 y1, .int .i64 y2, .int .i64 y3, .int .i64 y4]] := by simp only [List.map_toArray, List.map_cons, List.map_nil, Act.eval, e37]
        refine ⟨38, rfl, op_call rfl (run_callL _ _ _ 19 _ _ _ rfl rfl hv9 (enters_of Try.func19 (by kernel_rfl) rfl)) ?_⟩
        refine (c_toFlow y0 y1 y2 y3 y4 _).mono ?_
        rintro e w5 ⟨rfl, g5⟩
        exact ⟨_, rfl, _, rfl, rfl, g5⟩
      · refine opS_any (d := 39) rfl rfl (by kernel_rfl) ?_
        intro fr9 wq hf hd hb
        have e36 : fr9.tmps.getD 36 undef = .agg #[.int .i64 N, .int .i64 R, .slice a5 n c5] := hd 36 (by kernel_rfl)
        have e38 : fr9.tmps.getD 38 undef = .agg #[.int .i64 y0, .int .i64 y1, .int .i64 y2, .int .i64 y3, .int .i64 y4] := hd 38 (by kernel_rfl)
        have hv9 : (#[Operand.tmp 36, Operand.tmp 38] : Array Operand).map fr9.eval = #[.agg #[.int .i64 N, .int .i64 R, .slice a5 n c5], .agg #[.int .i64 y0, .int .i64 y1, .int .i64 y2, .int .i64 y3, .int .i64 y4]] := by simp only [List.map_toArray, List.map_cons, List.map_nil, Act.eval, e36, e38]
        refine ⟨39, rfl, op_call rfl (run_callL _ _ _ 12 _ _ _ rfl rfl hv9 (enters_of Try.func12 (by kernel_rfl) rfl)) ?_⟩
        refine (c_Snd_v HV.out a5 n c5 _ HL.out hn (row_below OX06.out hb)).mono ?_
        rintro e w5 ⟨a5, c5, rfl, o5, g5⟩
        exact ⟨_, rfl, _, rfl, ⟨a5, c5, rfl, row_wider o5 hb.size⟩, grown_below g5⟩
      · refine opS_any (d := 35) rfl rfl (by kernel_rfl) ?_
        intro fr9 wq hf hd hb
        obtain ⟨a39, c39, e39, o39⟩ : ∃ (a2 : Option Addr) (c2 : Nat), fr9.tmps.getD 39 undef = .tuple #[.agg #[.int .i64 v1, .int .i64 v2, .slice a2 v3.length c2], .agg #[.int .i64 u0, .int .i64 u1, .int .i64 u2, .int .i64 u3, .int .i64 u4], .bool vb] ∧ wq.ownsRow w6.heap.size 27 5 (.slice a2 v3.length c2) v3.length (fCells v3) := hd 39 (by kernel_rfl)
        exact ⟨35, rfl, wp_val2 rfl ((run_mv _ _ _ (.tmp 39) _ e39).1 rfl) ⟨_, rfl, ⟨a39, c39, rfl, o39⟩, Below.refl _ _⟩⟩
      · refine opS_any (d := 40) rfl rfl (by kernel_rfl) ?_
        intro fr9 wq hf hd hb
        obtain ⟨a35, c35, e35, o35⟩ : ∃ (a2 : Option Addr) (c2 : Nat), fr9.tmps.getD 35 undef = .tuple #[.agg #[.int .i64 v1, .int .i64 v2, .slice a2 v3.length c2], .agg #[.int .i64 u0, .int .i64 u1, .int .i64 u2, .int .i64 u3, .int .i64 u4], .bool vb] ∧ wq.ownsRow w6.heap.size 27 5 (.slice a2 v3.length c2) v3.length (fCells v3) := hd 35 (by kernel_rfl)
        exact ⟨40, rfl, wp_val2 rfl (run_ext _ _ _ (.tmp 35) 0 _ _ rfl e35 rfl) ⟨_, rfl, ⟨a35, c35, rfl, o35⟩, Below.refl _ _⟩⟩
      · refine opS_any (d := 41) rfl rfl (by kernel_rfl) ?_
        intro fr9 wq hf hd hb
        obtain ⟨a35, c35, e35, o35⟩ : ∃ (a2 : Option Addr) (c2 : Nat), fr9.tmps.getD 35 undef = .tuple #[.agg #[.int .i64 v1, .int .i64 v2, .slice a2 v3.length c2], .agg #[.int .i64 u0, .int .i64 u1, .int .i64 u2, .int .i64 u3, .int .i64 u4], .bool vb] ∧ wq.ownsRow w6.heap.size 27 5 (.slice a2 v3.length c2) v3.length (fCells v3) := hd 35 (by kernel_rfl)
        exact ⟨41, rfl, wp_val2 rfl (run_ext _ _ _ (.tmp 35) 1 _ _ rfl e35 rfl) ⟨_, rfl, rfl, Below.refl _ _⟩⟩
      · refine opS_any (d := 42) rfl rfl (by kernel_rfl) ?_
        intro fr9 wq hf hd hb
        obtain ⟨a35, c35, e35, o35⟩ : ∃ (a2 : Option Addr) (c2 : Nat), fr9.tmps.getD 35 undef = .tuple #[.agg #[.int .i64 v1, .int .i64 v2, .slice a2 v3.length c2], .agg #[.int .i64 u0, .int .i64 u1, .int .i64 u2, .int .i64 u3, .int .i64 u4], .bool vb] ∧ wq.ownsRow w6.heap.size 27 5 (.slice a2 v3.length c2) v3.length (fCells v3) := hd 35 (by kernel_rfl)
        exact ⟨42, rfl, wp_val2 rfl (run_ext _ _ _ (.tmp 35) 2 _ _ rfl e35 rfl) ⟨_, rfl, rfl, Below.refl _ _⟩⟩
      · exact opS_alloc (d := 10) rfl rfl (fun ρ wq => run_alOi _ ρ wq rfl) _
      · refine opS_any (d := 11) rfl rfl (by kernel_rfl) ?_
        exact op_alloc (d := 11) rfl 27 [.int .i64 0, .int .i64 0, .int .i64 0, .int .i64 0, .int .i64 0] _ (Nat.le_refl _) rfl (fun ρ wq => run_alFi _ ρ wq rfl) _
      · exact opS_store 10 40 25 rfl rfl rfl rfl (by kernel_rfl) (by kernel_rfl) rfl (fun ρ wq g cs u hx hy hb hc hu => st_outlet rfl g cs u hx hy hb hc hu) _
    · clear hfr hdi
      intro fq wq hf hbq
      have e36 : fq 36 = .agg #[.int .i64 N, .int .i64 R, .slice a5 n c5] := hf 36 (by decide)
      have e37 : fq 37 = .agg #[.int .i64 y0, .int .i64 y1, .int .i64 y2, .int .i64 y3, .int .i64 y4] := hf 37 (by decide)
      have e38 : fq 38 = .agg #[.int .i64 y0, .int .i64 y1, .int .i64 y2, .int .i64 y3, .int .i64 y4] := hf 38 (by decide)
      obtain ⟨a39, c39, e39, o39⟩ : ∃ (a2 : Option Addr) (c2 : Nat), fq 39 = .tuple #[.agg #[.int .i64 v1, .int .i64 v2, .slice a2 v3.length c2], .agg #[.int .i64 u0, .int .i64 u1, .int .i64 u2, .int .i64 u3, .int .i64 u4], .bool vb] ∧ wq.ownsRow w6.heap.size 27 5 (.slice a2 v3.length c2) v3.length (fCells v3) := hf 39 (by decide)
      clear o39
      obtain ⟨a35, c35, e35, o35⟩ : ∃ (a2 : Option Addr) (c2 : Nat), fq 35 = .tuple #[.agg #[.int .i64 v1, .int .i64 v2, .slice a2 v3.length c2], .agg #[.int .i64 u0, .int .i64 u1, .int .i64 u2, .int .i64 u3, .int .i64 u4], .bool vb] ∧ wq.ownsRow w6.heap.size 27 5 (.slice a2 v3.length c2) v3.length (fCells v3) := hf 35 (by decide)
      clear o35
      obtain ⟨a40, c40, e40, o40⟩ : ∃ (a2 : Option Addr) (c2 : Nat), fq 40 = .agg #[.int .i64 v1, .int .i64 v2, .slice a2 v3.length c2] ∧ wq.ownsRow w6.heap.size 27 5 (.slice a2 v3.length c2) v3.length (fCells v3) := hf 40 (by decide)
      clear o40
      have e41 : fq 41 = .agg #[.int .i64 u0, .int .i64 u1, .int .i64 u2, .int .i64 u3, .int .i64 u4] := hf 41 (by decide)
      have e42 : fq 42 = .bool vb := hf 42 (by decide)
      obtain ⟨g10, a10, c10, e10, l10, b10, o10⟩ : ∃ (g : Nat) (a2 : Option Addr) (c2 : Nat), fq 10 = .pointer (some ⟨g, 0, none⟩) ∧ w6.heap.size ≤ g ∧ Box wq g 25 (Value.cells (.agg #[.int .i64 v1, .int .i64 v2, .slice a2 v3.length c2])).toList ∧ wq.ownsRow w6.heap.size 27 5 (.slice a2 v3.length c2) v3.length (fCells v3) := by
        obtain ⟨g, u, h1, h2, h3, a2, c2, rfl, h4⟩ := hf 10 (by decide)
        exact ⟨g, a2, c2, h1, h2, h3, h4⟩
      obtain ⟨g11, e11, l11, b11⟩ : ∃ g, fq 11 = .pointer (some ⟨g, 0, none⟩) ∧ w6.heap.size ≤ g ∧ Box wq g 27 [.int .i64 0, .int .i64 0, .int .i64 0, .int .i64 0, .int .i64 0] := hf 11 (by decide)
      simp only [List.drop_succ_cons, List.drop_zero, putL, Act.put, List.setIfInBounds_toArray, List.set_cons_succ, List.set_cons_zero, e36, e37, e38, e39, e35, e40, e41, e42, e10, e11]
      clear hf e36 e37 e38 e39 e35 e40 e41 e42 e10 e11
      have hne : (Value.slice a10 v3.length c10).ownBlock ≠ some g11 := row_ne5 o10 b11 HNE.out (by omega)
      obtain ⟨y0, y1, y2, y3, y4, yf⟩ := b11.five
      go_upto_region 8 with fail
      obtain ⟨w7, hw7⟩ : ∃ W, W = (((((wq.setCell ⟨g11, 0, none⟩ (.int .i64 u0)).setCell ⟨g11, 1, none⟩ (.int .i64 u1)).setCell ⟨g11, 2, none⟩ (.int .i64 u2)).setCell ⟨g11, 3, none⟩ (.int .i64 u3)).setCell ⟨g11, 4, none⟩ (.int .i64 u4)) := ⟨_, rfl⟩
      have hb7 : Below w6.heap.size w6 w7 := by rw [hw7]; exact (((((hbq.setCell l11 _).setCell l11 _).setCell l11 _).setCell l11 _).setCell l11 _)
      have HW7 := Lib.hid hw7
      have z7 := hb7.size
      have D7 := Lib.hid (Below.step D6.out hb7 (by omega))
      have AW7 := Lib.hid (Below.step AW6.out hb7 (by omega))
      have BP7 := Lib.hid (BP6.out.keep hb7)
      have BQ7 := Lib.hid (BQ6.out.keep hb7)
      have BFY7 := Lib.hid (BFY6.out.keep hb7)
      have BY7 := Lib.hid (BY6.out.keep hb7)
      have BX07 := Lib.hid (BX06.out.keep hb7)
      have OY7 := Lib.hid (row_below OY6.out hb7)
      have OX07 := Lib.hid (row_below OX06.out hb7)
      have BFG7 : Hid (Box w7 g11 27 [.int .i64 u0, .int .i64 u1, .int .i64 u2, .int .i64 u3, .int .i64 u4]) := Lib.hid (by rw [hw7]; exact (((((b11.set 0 _).set 1 _).set 2 _).set 3 _).set 4 _))
      have hgl11 := BFG7.out.lt
      have hnb : g10 ≠ g11 := fun e => by subst e; exact absurd (box_type b10 b11) (by decide)
      have BG7 : Hid (Box w7 g10 25 [.int .i64 v1, .int .i64 v2, .slice a10 v3.length c10]) := Lib.hid (by rw [hw7]; exact (((((b10.other hnb _).other hnb _).other hnb _).other hnb _).other hnb _))
      have hgl10 := BG7.out.lt
      clear b10 hnb
      have OG7 : Hid (w7.ownsRow w6.heap.size 27 5 (.slice a10 v3.length c10) v3.length (fCells v3)) := Lib.hid (by rw [hw7]; exact (row_set (row_set (row_set (row_set (row_set o10 _ _ hne) _ _ hne) _ _ hne) _ _ hne) _ _ hne))
      have LG := Lib.hid (fun k hk => OG7.out.lt k hk)
      have SGxFG := Lib.hid hne
      clear o10
      clear hw7 hb7 hbq y0 y1 y2 y3 y4 yf b11 hne
      rw [← HW7.out]
      clear AW5 BP5 BQ5 BFY5 BY5 OY5 OX05
      clear AW6 BP6 BQ6 BFY6 BY6 BX06 OY6 OX06
      obtain ⟨xG0, xG1, xG2, xGf⟩ := BG7.out.three
      obtain ⟨xY0, xY1, xY2, xYf⟩ := BY7.out.three
      go_wp2_with fail
      refine (c_eqOutlet v1 v2 _ _ v3.length _ _ v3 _ rfl HN3.out (FlwRow.flws OG7.out) (FlwRow.flws OY7.out)).mono ?_; rintro e w8 ⟨rfl, g8⟩
      clear xG0 xG1 xG2 xGf xY0 xY1 xY2 xYf
      have z8 := g8.size
      have D8 := Lib.hid (Below.step D7.out g8 (by omega))
      have AW8 := Lib.hid (Below.step AW7.out g8 (by omega))
      have BP8 := Lib.hid (BP7.out.keep g8)
      have BQ8 := Lib.hid (BQ7.out.keep g8)
      have BFY8 := Lib.hid (BFY7.out.keep g8)
      have BY8 := Lib.hid (BY7.out.keep g8)
      have BX08 := Lib.hid (BX07.out.keep g8)
      have BFG8 := Lib.hid (BFG7.out.keep g8)
      have BG8 := Lib.hid (BG7.out.keep g8)
      have OY8 := Lib.hid (row_below OY7.out g8)
      have OX08 := Lib.hid (row_below OX07.out g8)
      have OG8 := Lib.hid (row_below OG7.out g8)
      clear g8
      clear AW7 BP7 BQ7 BFY7 BY7 BX07 BFG7 BG7 OY7 OX07 OG7
      obtain ⟨xFG0, xFG1, xFG2, xFG3, xFG4, xFGf⟩ := BFG8.out.five
      obtain ⟨xFY0, xFY1, xFY2, xFY3, xFY4, xFYf⟩ := BFY8.out.five
      go_wp2_with fail
      refine (c_eqFlow u0 u1 u2 u3 u4 _).mono ?_; rintro e w9 ⟨rfl, g9⟩
      clear xFG0 xFG1 xFG2 xFG3 xFG4 xFGf xFY0 xFY1 xFY2 xFY3 xFY4 xFYf
      have z9 := g9.size
      have D9 := Lib.hid (Below.step D8.out g9 (by omega))
      have AW9 := Lib.hid (Below.step AW8.out g9 (by omega))
      have BP9 := Lib.hid (BP8.out.keep g9)
      have BQ9 := Lib.hid (BQ8.out.keep g9)
      have BFY9 := Lib.hid (BFY8.out.keep g9)
      have BY9 := Lib.hid (BY8.out.keep g9)
      have BX09 := Lib.hid (BX08.out.keep g9)
      have BFG9 := Lib.hid (BFG8.out.keep g9)
      have BG9 := Lib.hid (BG8.out.keep g9)
      have OY9 := Lib.hid (row_below OY8.out g9)
      have OX09 := Lib.hid (row_below OX08.out g9)
      have OG9 := Lib.hid (row_below OG8.out g9)
      clear g9
      clear AW8 BP8 BQ8 BFY8 BY8 BX08 BFG8 BG8 OY8 OX08 OG8
      go_wp2_with fail
      go_upto_region 10 with fail
      refine region_any _ 4 128 [58, 59, 60, 61] [(58, .val (.agg #[.int .i64 N, .int .i64 R, .slice a5 n c5])), (59, .val (.agg #[.int .i64 N, .int .i64 R, .slice a n cap])), (60, .row w9.heap.size 27 5 n (fCells fs) (fun s => .agg #[.int .i64 N, .int .i64 R, s])), (61, .val (.bool true))] rfl (by kernel_rfl) ?_ ?_
      · refine ⟨?_, ?_, ?_, ?_, trivial⟩
        · refine op_val (d := 58) rfl (.agg #[.int .i64 N, .int .i64 R, .slice a5 n c5]) (fun fr9 wq hf _ hb => ⟨?_, ?_⟩) _
          rotate_left
          · exact rfl
          exact run_ldOi _ _ _ (.tmp 9) _ _ _ _ rfl (hf 9 (by kernel_rfl)) (BX09.out.keep hb)
        · refine op_val (d := 59) rfl (.agg #[.int .i64 N, .int .i64 R, .slice a n cap]) (fun fr9 wq hf _ hb => ⟨?_, ?_⟩) _
          rotate_left
          · exact rfl
          exact run_ldOl _ _ _ (.tmp 2) _ _ _ _ rfl (hf 2 (by kernel_rfl)) (BP9.out.keep hb)
        · intro fr9 wq hf hd hb
          have e59 : fr9.tmps.getD 59 undef = .agg #[.int .i64 N, .int .i64 R, .slice a n cap] := hd 59 (by kernel_rfl)
          have hv9 : (#[Operand.tmp 59] : Array Operand).map fr9.eval = #[.agg #[.int .i64 N, .int .i64 R, .slice a n cap]] := by simp only [List.map_toArray, List.map_cons, List.map_nil, Act.eval, e59]
          refine ⟨60, rfl, op_call rfl (run_callL _ _ _ 18 _ _ _ rfl rfl hv9 (enters_of Try.func18 (by kernel_rfl) rfl)) ?_⟩
          refine (c_toOutlet N R a n cap fs _ HL.out hn ((RI.out.below AW9.out).below hb)).mono ?_
          rintro e w5 ⟨a5, c5, rfl, o5, g5⟩
          exact ⟨_, rfl, _, rfl, ⟨a5, c5, rfl, row_wider o5 hb.size⟩, grown_below g5⟩
        · intro fr9 wq hf hd hb
          have e58 : fr9.tmps.getD 58 undef = .agg #[.int .i64 N, .int .i64 R, .slice a5 n c5] := hd 58 (by kernel_rfl)
          obtain ⟨a60, c60, e60, o60⟩ : ∃ (a2 : Option Addr) (c2 : Nat), fr9.tmps.getD 60 undef = .agg #[.int .i64 N, .int .i64 R, .slice a2 n c2] ∧ wq.ownsRow w9.heap.size 27 5 (.slice a2 n c2) n (fCells fs) := hd 60 (by kernel_rfl)
          have hv9 : (#[Operand.tmp 58, Operand.tmp 60] : Array Operand).map fr9.eval = #[.agg #[.int .i64 N, .int .i64 R, .slice a5 n c5], .agg #[.int .i64 N, .int .i64 R, .slice a60 n c60]] := by simp only [List.map_toArray, List.map_cons, List.map_nil, Act.eval, e58, e60]
          refine ⟨61, rfl, op_call rfl (run_callL _ _ _ 21 _ _ _ rfl rfl hv9 (enters_of Try.func21 (by kernel_rfl) rfl)) ?_⟩
          refine (c_eqOutlet N R _ _ n _ _ fs _ HL.out hn (FlwRow.flws (row_below OX09.out hb)) (FlwRow.flws o60)).mono ?_
          rintro e w5 ⟨rfl, g5⟩
          exact ⟨_, rfl, _, rfl, rfl, g5⟩
      · intro fq wq hf hbq
        have e58 : fq 58 = .agg #[.int .i64 N, .int .i64 R, .slice a5 n c5] := hf 58 (by decide)
        have e59 : fq 59 = .agg #[.int .i64 N, .int .i64 R, .slice a n cap] := hf 59 (by decide)
        obtain ⟨a60, c60, e60, o60⟩ : ∃ (a2 : Option Addr) (c2 : Nat), fq 60 = .agg #[.int .i64 N, .int .i64 R, .slice a2 n c2] ∧ wq.ownsRow w9.heap.size 27 5 (.slice a2 n c2) n (fCells fs) := hf 60 (by decide)
        have e61 : fq 61 = .bool true := hf 61 (by decide)
        simp only [List.drop_succ_cons, List.drop_zero, putL, Act.put, List.setIfInBounds_toArray, List.set_cons_succ, List.set_cons_zero, e58, e59, e60, e61]
        clear hf e58 e59 e60 e61
        obtain ⟨w10, rfl⟩ : ∃ W, W = wq := ⟨_, rfl⟩
        have z10 := hbq.size
        have D10 := Lib.hid (Below.step D9.out hbq (by omega))
        have AW10 := Lib.hid (Below.step AW9.out hbq (by omega))
        have BP10 := Lib.hid (BP9.out.keep hbq)
        have BQ10 := Lib.hid (BQ9.out.keep hbq)
        have BFY10 := Lib.hid (BFY9.out.keep hbq)
        have BY10 := Lib.hid (BY9.out.keep hbq)
        have BX010 := Lib.hid (BX09.out.keep hbq)
        have BFG10 := Lib.hid (BFG9.out.keep hbq)
        have BG10 := Lib.hid (BG9.out.keep hbq)
        have OY10 := Lib.hid (row_below OY9.out hbq)
        have OX010 := Lib.hid (row_below OX09.out hbq)
        have OG10 := Lib.hid (row_below OG9.out hbq)
        clear hbq o60
        clear AW9 BP9 BQ9 BFY9 BY9 BX09 BFG9 BG9 OY9 OX09 OG9
        obtain ⟨xX00, xX01, xX02, xX0f⟩ := BX010.out.three
        go_wp2_with fail
        refine (c_markOutlet _ N R _ n _ 1 _ _ hn (by omega) (by omega) OX010.out).mono ?_; rintro e w11 ⟨rfl, o11, g11⟩
        clear xX00 xX01 xX02 xX0f
        have z11 := g11.size
        have D11 := Lib.hid (D10.out.grown g11 (by omega) (fun k hk => by have := (LX0.out k hk).1; omega))
        have AW11 := Lib.hid (AW10.out.grown g11 (by omega) (fun k hk => by have := (LX0.out k hk).1; omega))
        have BP11 := Lib.hid (Box.kept BP10.out g11 (row_ne OX010.out BP10.out (by decide)))
        have BQ11 := Lib.hid (Box.kept BQ10.out g11 (row_ne OX010.out BQ10.out (by decide)))
        have BFY11 := Lib.hid (Box.kept BFY10.out g11 (fun hk => by have := LX0.out _ hk; omega))
        have BY11 := Lib.hid (Box.kept BY10.out g11 (row_ne OX010.out BY10.out (by decide)))
        have BX011 := Lib.hid (Box.kept BX010.out g11 (row_ne OX010.out BX010.out (by decide)))
        have BFG11 := Lib.hid (Box.kept BFG10.out g11 (fun hk => by have := LX0.out _ hk; omega))
        have BG11 := Lib.hid (Box.kept BG10.out g11 (row_ne OX010.out BG10.out (by decide)))
        have OY11 := Lib.hid (row_kept OY10.out g11 (fun k hk h => by have := LY.out k hk; have := LX0.out k h; omega))
        have OG11 := Lib.hid (row_kept OG10.out g11 (fun k hk h => by have := LG.out k hk; have := LX0.out k h; omega))
        have OX011 := Lib.hid o11
        clear o11 g11
        clear AW10 BP10 BQ10 BFY10 BY10 BX010 BFG10 BG10 OY10 OX010 OG10
        have hk1 : ¬ (1 + 5 * (n : Int) < 0) := by omega
        obtain ⟨xG0, xG1, xG2, xGf⟩ := BG11.out.three
        obtain ⟨xY0, xY1, xY2, xYf⟩ := BY11.out.three
        go_wp2_with fail
        refine (c_eqOutlet v1 v2 _ _ v3.length _ _ v3 _ rfl HN3.out (FlwRow.flws OG11.out) (FlwRow.flws OY11.out)).mono ?_; rintro e w12 ⟨rfl, g12⟩
        clear xG0 xG1 xG2 xGf xY0 xY1 xY2 xYf
        have z12 := g12.size
        have D12 := Lib.hid (Below.step D11.out g12 (by omega))
        have AW12 := Lib.hid (Below.step AW11.out g12 (by omega))
        have BP12 := Lib.hid (BP11.out.keep g12)
        have BQ12 := Lib.hid (BQ11.out.keep g12)
        have BFY12 := Lib.hid (BFY11.out.keep g12)
        have BY12 := Lib.hid (BY11.out.keep g12)
        have BX012 := Lib.hid (BX011.out.keep g12)
        have BFG12 := Lib.hid (BFG11.out.keep g12)
        have BG12 := Lib.hid (BG11.out.keep g12)
        have OY12 := Lib.hid (row_below OY11.out g12)
        have OX012 := Lib.hid (row_below OX011.out g12)
        have OG12 := Lib.hid (row_below OG11.out g12)
        clear g12
        clear AW11 BP11 BQ11 BFY11 BY11 BX011 BFG11 BG11 OY11 OX011 OG11
        obtain ⟨xFG0, xFG1, xFG2, xFG3, xFG4, xFGf⟩ := BFG12.out.five
        obtain ⟨xFY0, xFY1, xFY2, xFY3, xFY4, xFYf⟩ := BFY12.out.five
        go_wp2_with fail
        refine (c_eqFlow u0 u1 u2 u3 u4 _).mono ?_; rintro e w13 ⟨rfl, g13⟩
        clear xFG0 xFG1 xFG2 xFG3 xFG4 xFGf xFY0 xFY1 xFY2 xFY3 xFY4 xFYf
        have z13 := g13.size
        have D13 := Lib.hid (Below.step D12.out g13 (by omega))
        have AW13 := Lib.hid (Below.step AW12.out g13 (by omega))
        have BP13 := Lib.hid (BP12.out.keep g13)
        have BQ13 := Lib.hid (BQ12.out.keep g13)
        have BFY13 := Lib.hid (BFY12.out.keep g13)
        have BY13 := Lib.hid (BY12.out.keep g13)
        have BX013 := Lib.hid (BX012.out.keep g13)
        have BFG13 := Lib.hid (BFG12.out.keep g13)
        have BG13 := Lib.hid (BG12.out.keep g13)
        have OY13 := Lib.hid (row_below OY12.out g13)
        have OX013 := Lib.hid (row_below OX012.out g13)
        have OG13 := Lib.hid (row_below OG12.out g13)
        clear g13
        clear AW12 BP12 BQ12 BFY12 BY12 BX012 BFG12 BG12 OY12 OX012 OG12
        obtain ⟨xG0, xG1, xG2, xGf⟩ := BG13.out.three
        go_wp2_with fail
        refine (c_markOutlet _ v1 v2 _ v3.length _ 1 _ _ HN3.out (by omega) (by omega) OG13.out).mono ?_; rintro e w14 ⟨rfl, o14, g14⟩
        clear xG0 xG1 xG2 xGf
        have z14 := g14.size
        have D14 := Lib.hid (D13.out.grown g14 (by omega) (fun k hk => by have := (LG.out k hk).1; omega))
        have AW14 := Lib.hid (AW13.out.grown g14 (by omega) (fun k hk => by have := (LG.out k hk).1; omega))
        have BP14 := Lib.hid (Box.kept BP13.out g14 (row_ne OG13.out BP13.out (by decide)))
        have BQ14 := Lib.hid (Box.kept BQ13.out g14 (row_ne OG13.out BQ13.out (by decide)))
        have BFY14 := Lib.hid (Box.kept BFY13.out g14 (fun hk => by have := LG.out _ hk; omega))
        have BY14 := Lib.hid (Box.kept BY13.out g14 (row_ne OG13.out BY13.out (by decide)))
        have BX014 := Lib.hid (Box.kept BX013.out g14 (row_ne OG13.out BX013.out (by decide)))
        have BFG14 := Lib.hid (Box.kept BFG13.out g14 SGxFG.out)
        have BG14 := Lib.hid (Box.kept BG13.out g14 (row_ne OG13.out BG13.out (by decide)))
        have OY14 := Lib.hid (row_kept OY13.out g14 (fun k hk h => by have := LY.out k hk; have := LG.out k h; omega))
        have OX014 := Lib.hid (row_kept OX013.out g14 (fun k hk h => by have := LX0.out k hk; have := LG.out k h; omega))
        have OG14 := Lib.hid o14
        clear o14 g14
        clear AW13 BP13 BQ13 BFY13 BY13 BX013 BFG13 BG13 OY13 OX013 OG13
        have hh1 : ¬ (1 + 5 * (v3.length : Int) < 0) := by omega
        obtain ⟨xG0, xG1, xG2, xGf⟩ := BG14.out.three
        go_wp2_with fail
        refine (c_heldOutlet v1 v2 _ v3.length _ 1 _ HN3.out (by omega) (by omega) (row_vals OG14.out)).mono ?_; rintro e w15 ⟨rfl, g15⟩
        clear xG0 xG1 xG2 xGf
        have z15 := g15.size
        have D15 := Lib.hid (Below.step D14.out g15 (by omega))
        have AW15 := Lib.hid (Below.step AW14.out g15 (by omega))
        have BP15 := Lib.hid (BP14.out.keep g15)
        have BQ15 := Lib.hid (BQ14.out.keep g15)
        have BFY15 := Lib.hid (BFY14.out.keep g15)
        have BY15 := Lib.hid (BY14.out.keep g15)
        have BX015 := Lib.hid (BX014.out.keep g15)
        have BFG15 := Lib.hid (BFG14.out.keep g15)
        have BG15 := Lib.hid (BG14.out.keep g15)
        have OY15 := Lib.hid (row_below OY14.out g15)
        have OX015 := Lib.hid (row_below OX014.out g15)
        have OG15 := Lib.hid (row_below OG14.out g15)
        clear g15
        clear AW14 BP14 BQ14 BFY14 BY14 BX014 BFG14 BG14 OY14 OX014 OG14
        go_upto_region 24 with fail
        obtain ⟨hfr, hdi⟩ := bs_one (x := ⟨16, 25, [.int .i64 0, .int .i64 0, .slice none 0 0], .row w15.heap.size 27 5 v3.length (fCells v3) (fun s => .agg #[.int .i64 v1, .int .i64 v2, s])⟩) (by kernel_rfl)
        refine region_anyP _ 12 128 [97, 98, 99, 100, 101, 96, 102, 103, 104, 16, 17] [⟨16, 25, [.int .i64 0, .int .i64 0, .slice none 0 0], .row w15.heap.size 27 5 v3.length (fCells v3) (fun s => .agg #[.int .i64 v1, .int .i64 v2, s])⟩] [(97, .val (.agg #[.int .i64 N, .int .i64 R, .slice a n cap])), (98, .row w15.heap.size 27 5 n (fCells fs) (fun s => .agg #[.int .i64 N, .int .i64 R, s])), (99, .val (.agg #[.int .i64 y0, .int .i64 y1, .int .i64 y2, .int .i64 y3, .int .i64 y4])), (100, .val (.agg #[.int .i64 y0, .int .i64 y1, .int .i64 y2, .int .i64 y3, .int .i64 y4])), (101, .row w15.heap.size 27 5 v3.length (fCells v3) (fun s => .tuple #[.agg #[.int .i64 v1, .int .i64 v2, s], .agg #[.int .i64 u0, .int .i64 u1, .int .i64 u2, .int .i64 u3, .int .i64 u4], .bool vb])), (96, .row w15.heap.size 27 5 v3.length (fCells v3) (fun s => .tuple #[.agg #[.int .i64 v1, .int .i64 v2, s], .agg #[.int .i64 u0, .int .i64 u1, .int .i64 u2, .int .i64 u3, .int .i64 u4], .bool vb])), (102, .row w15.heap.size 27 5 v3.length (fCells v3) (fun s => .agg #[.int .i64 v1, .int .i64 v2, s])), (103, .val (.agg #[.int .i64 u0, .int .i64 u1, .int .i64 u2, .int .i64 u3, .int .i64 u4])), (104, .val (.bool vb)), (17, .bx w15.heap.size 27 [.int .i64 0, .int .i64 0, .int .i64 0, .int .i64 0, .int .i64 0])] [8] rfl (by kernel_rfl) hfr (spAt_free (by kernel_rfl)) hdi (by kernel_rfl) (fun _ _ _ _ _ h => h) ?_ ?_ ?_
        · clear hfr hdi
          intro i9 o9 hi9 ho9 fr9 wq hd
          rw [List.mem_singleton.1 hi9] at ho9
          injection ho9 with ho9
          subst ho9
          obtain ⟨a96, c96, e96, o96⟩ : ∃ (a2 : Option Addr) (c2 : Nat), fr9.tmps.getD 96 undef = .tuple #[.agg #[.int .i64 v1, .int .i64 v2, .slice a2 v3.length c2], .agg #[.int .i64 u0, .int .i64 u1, .int .i64 u2, .int .i64 u3, .int .i64 u4], .bool vb] ∧ wq.ownsRow w15.heap.size 27 5 (.slice a2 v3.length c2) v3.length (fCells v3) := hd 96 (by kernel_rfl)
          exact ⟨104, _, rfl, .inl ⟨rfl, fun w9 => run_ext _ _ w9 (.tmp 96) 2 _ _ rfl e96 rfl⟩, rfl⟩
        · clear hfr hdi
          refine ⟨?_, ?_, ?_, ?_, ?_, ?_, ?_, ?_, ?_, ?_, ?_, ?_, trivial⟩
          · refine opS_any (d := 97) rfl rfl (by kernel_rfl) ?_
            refine op_val (d := 97) rfl (.agg #[.int .i64 N, .int .i64 R, .slice a n cap]) (fun fr9 wq hf _ hb => ⟨?_, ?_⟩) _
            rotate_left
            · exact rfl
            exact run_ldOl _ _ _ (.tmp 2) _ _ _ _ rfl (hf 2 (by kernel_rfl)) (BP15.out.keep hb)
          · refine opS_any (d := 98) rfl rfl (by kernel_rfl) ?_
            intro fr9 wq hf hd hb
            have e97 : fr9.tmps.getD 97 undef = .agg #[.int .i64 N, .int .i64 R, .slice a n cap] := hd 97 (by kernel_rfl)
            have hv9 : (#[Operand.tmp 97] : Array Operand).map fr9.eval = #[.agg #[.int .i64 N, .int .i64 R, .slice a n cap]] := by simp only [List.map_toArray, List.map_cons, List.map_nil, Act.eval, e97]
            refine ⟨98, rfl, op_call rfl (run_callL _ _ _ 18 _ _ _ rfl rfl hv9 (enters_of Try.func18 (by kernel_rfl) rfl)) ?_⟩
            refine (c_toOutlet N R a n cap fs _ HL.out hn ((RI.out.below AW15.out).below hb)).mono ?_
            rintro e w5 ⟨a5, c5, rfl, o5, g5⟩
            exact ⟨_, rfl, _, rfl, ⟨a5, c5, rfl, row_wider o5 hb.size⟩, grown_below g5⟩
          · refine opS_any (d := 99) rfl rfl (by kernel_rfl) ?_
            refine op_val (d := 99) rfl (.agg #[.int .i64 y0, .int .i64 y1, .int .i64 y2, .int .i64 y3, .int .i64 y4]) (fun fr9 wq hf _ hb => ⟨?_, ?_⟩) _
            rotate_left
            · exact rfl
            exact run_ldFl _ _ _ (.tmp 3) _ _ _ _ _ _ rfl (hf 3 (by kernel_rfl)) (BQ15.out.keep hb)
          · refine opS_any (d := 100) rfl rfl (by kernel_rfl) ?_
            intro fr9 wq hf hd hb
            have e99 : fr9.tmps.getD 99 undef = .agg #[.int .i64 y0, .int .i64 y1, .int .i64 y2, .int .i64 y3, .int .i64 y4] := hd 99 (by kernel_rfl)
            have hv9 : (#[Operand.tmp 99] : Array Operand).map fr9.eval = #[.agg #[.int .i64 y0, .int .i64 y1, .int .i64 y2, .int .i64 y3, .int .i64 y4]] := by simp only [List.map_toArray, List.map_cons, List.map_nil, Act.eval, e99]
            refine ⟨100, rfl, op_call rfl (run_callL _ _ _ 19 _ _ _ rfl rfl hv9 (enters_of Try.func19 (by kernel_rfl) rfl)) ?_⟩
            refine (c_toFlow y0 y1 y2 y3 y4 _).mono ?_
            rintro e w5 ⟨rfl, g5⟩
            exact ⟨_, rfl, _, rfl, rfl, g5⟩
          · refine opS_any (d := 101) rfl rfl (by kernel_rfl) ?_
            intro fr9 wq hf hd hb
            obtain ⟨a98, c98, e98, o98⟩ : ∃ (a2 : Option Addr) (c2 : Nat), fr9.tmps.getD 98 undef = .agg #[.int .i64 N, .int .i64 R, .slice a2 n c2] ∧ wq.ownsRow w15.heap.size 27 5 (.slice a2 n c2) n (fCells fs) := hd 98 (by kernel_rfl)
            have e100 : fr9.tmps.getD 100 undef = .agg #[.int .i64 y0, .int .i64 y1, .int .i64 y2, .int .i64 y3, .int .i64 y4] := hd 100 (by kernel_rfl)
            have hv9 : (#[Operand.tmp 98, Operand.tmp 100] : Array Operand).map fr9.eval = #[.agg #[.int .i64 N, .int .i64 R, .slice a98 n c98], .agg #[.int .i64 y0, .int .i64 y1, .int .i64 y2, .int .i64 y3, .int .i64 y4]] := by simp only [List.map_toArray, List.map_cons, List.map_nil, Act.eval, e98, e100]
            refine ⟨101, rfl, op_call rfl (run_callL _ _ _ 12 _ _ _ rfl rfl hv9 (enters_of Try.func12 (by kernel_rfl) rfl)) ?_⟩
            refine (c_Snd_v HV.out a98 n c98 _ HL.out hn o98).mono ?_
            rintro e w5 ⟨a5, c5, rfl, o5, g5⟩
            exact ⟨_, rfl, _, rfl, ⟨a5, c5, rfl, row_wider o5 hb.size⟩, grown_below g5⟩
          · refine opS_any (d := 96) rfl rfl (by kernel_rfl) ?_
            intro fr9 wq hf hd hb
            obtain ⟨a101, c101, e101, o101⟩ : ∃ (a2 : Option Addr) (c2 : Nat), fr9.tmps.getD 101 undef = .tuple #[.agg #[.int .i64 v1, .int .i64 v2, .slice a2 v3.length c2], .agg #[.int .i64 u0, .int .i64 u1, .int .i64 u2, .int .i64 u3, .int .i64 u4], .bool vb] ∧ wq.ownsRow w15.heap.size 27 5 (.slice a2 v3.length c2) v3.length (fCells v3) := hd 101 (by kernel_rfl)
            exact ⟨96, rfl, wp_val2 rfl ((run_mv _ _ _ (.tmp 101) _ e101).1 rfl) ⟨_, rfl, ⟨a101, c101, rfl, o101⟩, Below.refl _ _⟩⟩
          · refine opS_any (d := 102) rfl rfl (by kernel_rfl) ?_
            intro fr9 wq hf hd hb
            obtain ⟨a96, c96, e96, o96⟩ : ∃ (a2 : Option Addr) (c2 : Nat), fr9.tmps.getD 96 undef = .tuple #[.agg #[.int .i64 v1, .int .i64 v2, .slice a2 v3.length c2], .agg #[.int .i64 u0, .int .i64 u1, .int .i64 u2, .int .i64 u3, .int .i64 u4], .bool vb] ∧ wq.ownsRow w15.heap.size 27 5 (.slice a2 v3.length c2) v3.length (fCells v3) := hd 96 (by kernel_rfl)
            exact ⟨102, rfl, wp_val2 rfl (run_ext _ _ _ (.tmp 96) 0 _ _ rfl e96 rfl) ⟨_, rfl, ⟨a96, c96, rfl, o96⟩, Below.refl _ _⟩⟩
          · refine opS_any (d := 103) rfl rfl (by kernel_rfl) ?_
            intro fr9 wq hf hd hb
            obtain ⟨a96, c96, e96, o96⟩ : ∃ (a2 : Option Addr) (c2 : Nat), fr9.tmps.getD 96 undef = .tuple #[.agg #[.int .i64 v1, .int .i64 v2, .slice a2 v3.length c2], .agg #[.int .i64 u0, .int .i64 u1, .int .i64 u2, .int .i64 u3, .int .i64 u4], .bool vb] ∧ wq.ownsRow w15.heap.size 27 5 (.slice a2 v3.length c2) v3.length (fCells v3) := hd 96 (by kernel_rfl)
            exact ⟨103, rfl, wp_val2 rfl (run_ext _ _ _ (.tmp 96) 1 _ _ rfl e96 rfl) ⟨_, rfl, rfl, Below.refl _ _⟩⟩
          · refine opS_any (d := 104) rfl rfl (by kernel_rfl) ?_
            intro fr9 wq hf hd hb
            obtain ⟨a96, c96, e96, o96⟩ : ∃ (a2 : Option Addr) (c2 : Nat), fr9.tmps.getD 96 undef = .tuple #[.agg #[.int .i64 v1, .int .i64 v2, .slice a2 v3.length c2], .agg #[.int .i64 u0, .int .i64 u1, .int .i64 u2, .int .i64 u3, .int .i64 u4], .bool vb] ∧ wq.ownsRow w15.heap.size 27 5 (.slice a2 v3.length c2) v3.length (fCells v3) := hd 96 (by kernel_rfl)
            exact ⟨104, rfl, wp_val2 rfl (run_ext _ _ _ (.tmp 96) 2 _ _ rfl e96 rfl) ⟨_, rfl, rfl, Below.refl _ _⟩⟩
          · exact opS_alloc (d := 16) rfl rfl (fun ρ wq => run_alOi _ ρ wq rfl) _
          · refine opS_any (d := 17) rfl rfl (by kernel_rfl) ?_
            exact op_alloc (d := 17) rfl 27 [.int .i64 0, .int .i64 0, .int .i64 0, .int .i64 0, .int .i64 0] _ (Nat.le_refl _) rfl (fun ρ wq => run_alFi _ ρ wq rfl) _
          · exact opS_store 16 102 25 rfl rfl rfl rfl (by kernel_rfl) (by kernel_rfl) rfl (fun ρ wq g cs u hx hy hb hc hu => st_outlet rfl g cs u hx hy hb hc hu) _
        · clear hfr hdi
          intro fq wq hf hbq
          have e97 : fq 97 = .agg #[.int .i64 N, .int .i64 R, .slice a n cap] := hf 97 (by decide)
          obtain ⟨a98, c98, e98, o98⟩ : ∃ (a2 : Option Addr) (c2 : Nat), fq 98 = .agg #[.int .i64 N, .int .i64 R, .slice a2 n c2] ∧ wq.ownsRow w15.heap.size 27 5 (.slice a2 n c2) n (fCells fs) := hf 98 (by decide)
          clear o98
          have e99 : fq 99 = .agg #[.int .i64 y0, .int .i64 y1, .int .i64 y2, .int .i64 y3, .int .i64 y4] := hf 99 (by decide)
          have e100 : fq 100 = .agg #[.int .i64 y0, .int .i64 y1, .int .i64 y2, .int .i64 y3, .int .i64 y4] := hf 100 (by decide)
          obtain ⟨a101, c101, e101, o101⟩ : ∃ (a2 : Option Addr) (c2 : Nat), fq 101 = .tuple #[.agg #[.int .i64 v1, .int .i64 v2, .slice a2 v3.length c2], .agg #[.int .i64 u0, .int .i64 u1, .int .i64 u2, .int .i64 u3, .int .i64 u4], .bool vb] ∧ wq.ownsRow w15.heap.size 27 5 (.slice a2 v3.length c2) v3.length (fCells v3) := hf 101 (by decide)
          clear o101
          obtain ⟨a96, c96, e96, o96⟩ : ∃ (a2 : Option Addr) (c2 : Nat), fq 96 = .tuple #[.agg #[.int .i64 v1, .int .i64 v2, .slice a2 v3.length c2], .agg #[.int .i64 u0, .int .i64 u1, .int .i64 u2, .int .i64 u3, .int .i64 u4], .bool vb] ∧ wq.ownsRow w15.heap.size 27 5 (.slice a2 v3.length c2) v3.length (fCells v3) := hf 96 (by decide)
          clear o96
          obtain ⟨a102, c102, e102, o102⟩ : ∃ (a2 : Option Addr) (c2 : Nat), fq 102 = .agg #[.int .i64 v1, .int .i64 v2, .slice a2 v3.length c2] ∧ wq.ownsRow w15.heap.size 27 5 (.slice a2 v3.length c2) v3.length (fCells v3) := hf 102 (by decide)
          clear o102
          have e103 : fq 103 = .agg #[.int .i64 u0, .int .i64 u1, .int .i64 u2, .int .i64 u3, .int .i64 u4] := hf 103 (by decide)
          have e104 : fq 104 = .bool vb := hf 104 (by decide)
          obtain ⟨g16, a16, c16, e16, l16, b16, o16⟩ : ∃ (g : Nat) (a2 : Option Addr) (c2 : Nat), fq 16 = .pointer (some ⟨g, 0, none⟩) ∧ w15.heap.size ≤ g ∧ Box wq g 25 (Value.cells (.agg #[.int .i64 v1, .int .i64 v2, .slice a2 v3.length c2])).toList ∧ wq.ownsRow w15.heap.size 27 5 (.slice a2 v3.length c2) v3.length (fCells v3) := by
            obtain ⟨g, u, h1, h2, h3, a2, c2, rfl, h4⟩ := hf 16 (by decide)
            exact ⟨g, a2, c2, h1, h2, h3, h4⟩
          obtain ⟨g17, e17, l17, b17⟩ : ∃ g, fq 17 = .pointer (some ⟨g, 0, none⟩) ∧ w15.heap.size ≤ g ∧ Box wq g 27 [.int .i64 0, .int .i64 0, .int .i64 0, .int .i64 0, .int .i64 0] := hf 17 (by decide)
          simp only [List.drop_succ_cons, List.drop_zero, putL, Act.put, List.setIfInBounds_toArray, List.set_cons_succ, List.set_cons_zero, e97, e98, e99, e100, e101, e96, e102, e103, e104, e16, e17]
          clear hf e97 e98 e99 e100 e101 e96 e102 e103 e104 e16 e17
          have hne : (Value.slice a16 v3.length c16).ownBlock ≠ some g17 := row_ne5 o16 b17 HNE.out (by omega)
          obtain ⟨y0, y1, y2, y3, y4, yf⟩ := b17.five
          go_upto_region 25 with fail
          obtain ⟨w16, hw16⟩ : ∃ W, W = (((((wq.setCell ⟨g17, 0, none⟩ (.int .i64 u0)).setCell ⟨g17, 1, none⟩ (.int .i64 u1)).setCell ⟨g17, 2, none⟩ (.int .i64 u2)).setCell ⟨g17, 3, none⟩ (.int .i64 u3)).setCell ⟨g17, 4, none⟩ (.int .i64 u4)) := ⟨_, rfl⟩
          have hb16 : Below w15.heap.size w15 w16 := by rw [hw16]; exact (((((hbq.setCell l17 _).setCell l17 _).setCell l17 _).setCell l17 _).setCell l17 _)
          have HW16 := Lib.hid hw16
          have z16 := hb16.size
          have D16 := Lib.hid (Below.step D15.out hb16 (by omega))
          have AW16 := Lib.hid (Below.step AW15.out hb16 (by omega))
          have BP16 := Lib.hid (BP15.out.keep hb16)
          have BQ16 := Lib.hid (BQ15.out.keep hb16)
          have BFY16 := Lib.hid (BFY15.out.keep hb16)
          have BY16 := Lib.hid (BY15.out.keep hb16)
          have BX016 := Lib.hid (BX015.out.keep hb16)
          have BFG16 := Lib.hid (BFG15.out.keep hb16)
          have BG16 := Lib.hid (BG15.out.keep hb16)
          have OY16 := Lib.hid (row_below OY15.out hb16)
          have OX016 := Lib.hid (row_below OX015.out hb16)
          have OG16 := Lib.hid (row_below OG15.out hb16)
          have BFU16 : Hid (Box w16 g17 27 [.int .i64 u0, .int .i64 u1, .int .i64 u2, .int .i64 u3, .int .i64 u4]) := Lib.hid (by rw [hw16]; exact (((((b17.set 0 _).set 1 _).set 2 _).set 3 _).set 4 _))
          have hgl17 := BFU16.out.lt
          have hnb : g16 ≠ g17 := fun e => by subst e; exact absurd (box_type b16 b17) (by decide)
          have BU16 : Hid (Box w16 g16 25 [.int .i64 v1, .int .i64 v2, .slice a16 v3.length c16]) := Lib.hid (by rw [hw16]; exact (((((b16.other hnb _).other hnb _).other hnb _).other hnb _).other hnb _))
          have hgl16 := BU16.out.lt
          clear b16 hnb
          have OU16 : Hid (w16.ownsRow w15.heap.size 27 5 (.slice a16 v3.length c16) v3.length (fCells v3)) := Lib.hid (by rw [hw16]; exact (row_set (row_set (row_set (row_set (row_set o16 _ _ hne) _ _ hne) _ _ hne) _ _ hne) _ _ hne))
          have LU := Lib.hid (fun k hk => OU16.out.lt k hk)
          have SUxFU := Lib.hid hne
          clear o16
          clear hw16 hb16 hbq y0 y1 y2 y3 y4 yf b17 hne
          rw [← HW16.out]
          clear AW15 BP15 BQ15 BFY15 BY15 BX015 BFG15 BG15 OY15 OX015 OG15
          obtain ⟨xU0, xU1, xU2, xUf⟩ := BU16.out.three
          obtain ⟨xY0, xY1, xY2, xYf⟩ := BY16.out.three
          go_wp2_with fail
          refine (c_eqOutlet v1 v2 _ _ v3.length _ _ v3 _ rfl HN3.out (FlwRow.flws OU16.out) (FlwRow.flws OY16.out)).mono ?_; rintro e w17 ⟨rfl, g17⟩
          clear xU0 xU1 xU2 xUf xY0 xY1 xY2 xYf
          have z17 := g17.size
          have D17 := Lib.hid (Below.step D16.out g17 (by omega))
          have AW17 := Lib.hid (Below.step AW16.out g17 (by omega))
          have BP17 := Lib.hid (BP16.out.keep g17)
          have BQ17 := Lib.hid (BQ16.out.keep g17)
          have BFY17 := Lib.hid (BFY16.out.keep g17)
          have BY17 := Lib.hid (BY16.out.keep g17)
          have BX017 := Lib.hid (BX016.out.keep g17)
          have BFG17 := Lib.hid (BFG16.out.keep g17)
          have BG17 := Lib.hid (BG16.out.keep g17)
          have BFU17 := Lib.hid (BFU16.out.keep g17)
          have BU17 := Lib.hid (BU16.out.keep g17)
          have OY17 := Lib.hid (row_below OY16.out g17)
          have OX017 := Lib.hid (row_below OX016.out g17)
          have OG17 := Lib.hid (row_below OG16.out g17)
          have OU17 := Lib.hid (row_below OU16.out g17)
          clear g17
          clear AW16 BP16 BQ16 BFY16 BY16 BX016 BFG16 BG16 BFU16 BU16 OY16 OX016 OG16 OU16
          obtain ⟨xFU0, xFU1, xFU2, xFU3, xFU4, xFUf⟩ := BFU17.out.five
          obtain ⟨xFY0, xFY1, xFY2, xFY3, xFY4, xFYf⟩ := BFY17.out.five
          go_wp2_with fail
          refine (c_eqFlow u0 u1 u2 u3 u4 _).mono ?_; rintro e w18 ⟨rfl, g18⟩
          clear xFU0 xFU1 xFU2 xFU3 xFU4 xFUf xFY0 xFY1 xFY2 xFY3 xFY4 xFYf
          have z18 := g18.size
          have D18 := Lib.hid (Below.step D17.out g18 (by omega))
          have AW18 := Lib.hid (Below.step AW17.out g18 (by omega))
          have BP18 := Lib.hid (BP17.out.keep g18)
          have BQ18 := Lib.hid (BQ17.out.keep g18)
          have BFY18 := Lib.hid (BFY17.out.keep g18)
          have BY18 := Lib.hid (BY17.out.keep g18)
          have BX018 := Lib.hid (BX017.out.keep g18)
          have BFG18 := Lib.hid (BFG17.out.keep g18)
          have BG18 := Lib.hid (BG17.out.keep g18)
          have BFU18 := Lib.hid (BFU17.out.keep g18)
          have BU18 := Lib.hid (BU17.out.keep g18)
          have OY18 := Lib.hid (row_below OY17.out g18)
          have OX018 := Lib.hid (row_below OX017.out g18)
          have OG18 := Lib.hid (row_below OG17.out g18)
          have OU18 := Lib.hid (row_below OU17.out g18)
          clear g18
          clear AW17 BP17 BQ17 BFY17 BY17 BX017 BFG17 BG17 BFU17 BU17 OY17 OX017 OG17 OU17
          obtain ⟨xG0, xG1, xG2, xGf⟩ := BG18.out.three
          go_wp2_with fail
          refine (c_heldOutlet v1 v2 _ v3.length _ 1 _ HN3.out (by omega) (by omega) (row_vals OG18.out)).mono ?_; rintro e w19 ⟨rfl, g19⟩
          clear xG0 xG1 xG2 xGf
          have z19 := g19.size
          have D19 := Lib.hid (Below.step D18.out g19 (by omega))
          have AW19 := Lib.hid (Below.step AW18.out g19 (by omega))
          have BP19 := Lib.hid (BP18.out.keep g19)
          have BQ19 := Lib.hid (BQ18.out.keep g19)
          have BFY19 := Lib.hid (BFY18.out.keep g19)
          have BY19 := Lib.hid (BY18.out.keep g19)
          have BX019 := Lib.hid (BX018.out.keep g19)
          have BFG19 := Lib.hid (BFG18.out.keep g19)
          have BG19 := Lib.hid (BG18.out.keep g19)
          have BFU19 := Lib.hid (BFU18.out.keep g19)
          have BU19 := Lib.hid (BU18.out.keep g19)
          have OY19 := Lib.hid (row_below OY18.out g19)
          have OX019 := Lib.hid (row_below OX018.out g19)
          have OG19 := Lib.hid (row_below OG18.out g19)
          have OU19 := Lib.hid (row_below OU18.out g19)
          clear g19
          clear AW18 BP18 BQ18 BFY18 BY18 BX018 BFG18 BG18 BFU18 BU18 OY18 OX018 OG18 OU18
          go_wp2_with fail
          go_ret
          exact ⟨rfl, D19.out⟩
end Go.Proofs.Ytalalapjanckdaa
