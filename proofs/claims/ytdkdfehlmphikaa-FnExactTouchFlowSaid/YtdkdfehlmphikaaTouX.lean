/- The walk of the exact law of TouchFlow: true for all arguments. No condition. The text is written by a program (wip/ex_tou.py). -/
import Derived.Test.YtdkdfehlmphikaaTouS
import Derived.Test.YtdkdfehlmphikaaTabL
import Derived.Test.YtdkdfehlmphikaaOpS
namespace Go.Proofs.Ytdkdfehlmphikaa
open Go.RowKit
theorem s_Tou_v {N R : Int} {es : List E7} {f : F5} {ho now : Int} {v1 v2 : Int} {v3 : List E7} {vb : Bool} (hv : touchT (N, R, es) f ho now = ((v1, v2, v3), vb)) (a : Option Addr) (n cap : Nat) (w : World) (hxs : es.length = n) (hn : n ≤ 1048576) {B : Nat} (o : w.ownsRow B 69 7 (.slice a n cap) n (eCells es)) :
    Calls Try.prog 46 #[.agg #[.int .i64 N, .int .i64 R, .slice a n cap], fvv f, .int .i64 ho, .int .i64 now] w (RetTB w ((v1, v2, v3), vb)) := by
  have := s_TouchFlow N R f ho now a n cap es w hxs hn (row_cap o).1 (EntRow.ents o) (own_none o)
  rwa [hv] at this
theorem c_Tou_v {N R : Int} {es : List E7} {f : F5} {ho now : Int} {v1 v2 : Int} {v3 : List E7} {vb : Bool} (hv : touchT (N, R, es) f ho now = ((v1, v2, v3), vb)) (a : Option Addr) (n cap : Nat) (w : World) (hxs : es.length = n) (hn : n ≤ 1048576) {B : Nat} (o : w.ownsRow B 69 7 (.slice a n cap) n (eCells es)) :
    Calls Try.prog 45 #[.agg #[.int .i64 N, .int .i64 R, .slice a n cap], fvv f, .int .i64 ho, .int .i64 now] w (RetTB w ((v1, v2, v3), vb)) := by
  have := c_TouchFlow N R f ho now a n cap es w hxs hn (EntRow.ents o) (own_none o)
  rwa [hv] at this
theorem touch_len (N R : Int) (es : List E7) (f : F5) (ho now : Int) (_ : es.length ≤ 1048576) : (touchT (N, R, es) f ho now).1.2.2.length ≤ 1048576 := by
  unfold touchT
  split
  · rename_i hb
    simp only [touchB, Bool.and_eq_true] at hb
    have h1 := (tv_parts hb.1.1.1)
    have h2 := inB_true.1 h1.1
    have h3 := h1.2.2.1
    have : (restT N es f).length ≤ es.length := by
      unfold restT
      split
      · exact List.length_filter_le _ _
      · split
        · rw [List.length_drop]; omega
        · exact Nat.le_refl _
    dsimp only at h3 ⊢
    rw [List.length_append]
    simp only [List.length_cons, List.length_nil]
    omega
  · simp
set_option maxHeartbeats 8000000 in
set_option maxRecDepth 100000 in
theorem walkExactTouchFlow (N R : Int) (a : Option Addr) (n cap : Nat) (es : List E7) (y0 y1 y2 y3 y4 : Int) (ho now : Int) (w : World) (_ : (Lit.int .i64 N).wf = true) (_ : (Lit.int .i64 R).wf = true) (w0 : IsEnts w a n cap es)
    (_ : (Lit.int .i64 y0).wf = true) (_ : (Lit.int .i64 y1).wf = true) (_ : (Lit.int .i64 y2).wf = true) (_ : (Lit.int .i64 y3).wf = true) (_ : (Lit.int .i64 y4).wf = true) (_ : (Lit.int .i64 ho).wf = true) (_ : (Lit.int .i64 now).wf = true) :
    Calls Try.prog 12 #[.agg #[.int .i64 N, .int .i64 R, .slice a n cap], .agg #[.int .i64 y0, .int .i64 y1, .int .i64 y2, .int .i64 y3, .int .i64 y4], .int .i64 ho, .int .i64 now] w fun e w' => e = .returned (.bool true) ∧ Below w.heap.size w w' := by
  obtain ⟨hL, hc, hm, _, hI⟩ := w0
  by_cases hbig : (1048576 : Int) < n
  · have hm : n ≤ maxLen := Nat.le_trans hc hm
    go_enter Try.func12, Try.ntmps12
    go_wp2_with fail
    refine (c_szTable_no N R a n cap 1048576 _ hm (by omega) (by omega) hbig).mono ?_; rintro e w1 ⟨rfl, b1⟩
    go_wp2_with fail
    go_ret
    exact ⟨rfl, (((Below.refl _ _).alloc (Nat.le_refl _) _).alloc (by simp) _).trans (b1.mono (by simp; omega))⟩
  have hn : n ≤ 1048576 := by omega
  have hn0 : (n : Int) ≤ 1048576 := by omega
  have HL := Lib.hid hL
  clear hbig hL hc hm
  obtain ⟨⟨⟨v1, v2, v3⟩, vb⟩, hv⟩ : ∃ v, touchT (N, R, es) (y0, y1, y2, y3, y4) ho now = v := ⟨_, rfl⟩
  have HN3 : Hid (v3.length ≤ 1048576) := Lib.hid (by
    have := touch_len N R es (y0, y1, y2, y3, y4) ho now (by rw [HL.out]; exact hn)
    rw [hv] at this
    exact this)
  have hn3 := HN3.out
  have HV := Lib.hid hv
  clear hv
  have D0 := Lib.hid (Below.refl w.heap.size w)
  go_enter Try.func12, Try.ntmps12
  have AW0 := Lib.hid (Below.refl w.heap.size w)
  have RI := Lib.hid hI
  clear hI
  obtain ⟨w1, hw1, hb1, hz1, hx1⟩ : ∃ W, W = w.alloc (.cells #[.int .i64 N, .int .i64 R, .slice a n cap] 45) ∧ Below w.heap.size w W ∧ W.heap.size = w.heap.size + 1 ∧ Box W w.heap.size 45 [.int .i64 N, .int .i64 R, .slice a n cap] := head1 w 45 _
  have q1 := hz1
  have HW1 := Lib.hid hw1
  have z1 : w.heap.size + 1 ≤ w1.heap.size := by omega
  have D1 := Lib.hid (Below.step D0.out hb1 (by omega))
  have AW1 := Lib.hid (Below.step AW0.out hb1 (by omega))
  have BP1 := Lib.hid hx1
  clear hw1 hb1 hz1 hx1
  obtain ⟨w2, hw2, hb2, hz2, hx2⟩ : ∃ W, W = w1.alloc (.cells #[.int .i64 y0, .int .i64 y1, .int .i64 y2, .int .i64 y3, .int .i64 y4] 46) ∧ Below w1.heap.size w1 W ∧ W.heap.size = w1.heap.size + 1 ∧ Box W w1.heap.size 46 [.int .i64 y0, .int .i64 y1, .int .i64 y2, .int .i64 y3, .int .i64 y4] := head1 w1 46 _
  rw [q1] at hx2
  have q2 := hz2
  have HW2 := Lib.hid hw2
  have z2 : w1.heap.size + 1 ≤ w2.heap.size := by omega
  have D2 := Lib.hid (Below.step D1.out hb2 (by omega))
  have AW2 := Lib.hid (Below.step AW1.out hb2 (by omega))
  have BP2 := Lib.hid (BP1.out.keep hb2)
  have BQ2 := Lib.hid hx2
  clear hw2 hb2 hz2 hx2
  go_wp2_with fail
  rw [← HW1.out]
  rw [← HW2.out]
  refine (c_szTable N R a n cap 1048576 _ (by omega) hn0).mono ?_; rintro e w3 ⟨rfl, g3⟩
  have z3 := g3.size
  have D3 := Lib.hid (Below.step D2.out g3 (by omega))
  have AW3 := Lib.hid (Below.step AW2.out g3 (by omega))
  have BP3 := Lib.hid (BP2.out.keep g3)
  have BQ3 := Lib.hid (BQ2.out.keep g3)
  clear g3
  clear AW0
  clear AW1 BP1
  clear AW2 BP2 BQ2
  have hsz : ¬ (1048576 - (n : Int) < 0) := by omega
  go_upto_region 5 with fail
  obtain ⟨hfr, hdi⟩ := bs_one (x := ⟨10, 30, [.int .i64 0, .int .i64 0, .slice none 0 0], .row w3.heap.size 69 7 v3.length (eCells v3) (fun s => .agg #[.int .i64 v1, .int .i64 v2, s])⟩) (by kernel_rfl)
  refine region_anyS _ 12 114 [26, 27, 28, 29, 30, 31, 32, 25, 33, 34, 10] [⟨10, 30, [.int .i64 0, .int .i64 0, .slice none 0 0], .row w3.heap.size 69 7 v3.length (eCells v3) (fun s => .agg #[.int .i64 v1, .int .i64 v2, s])⟩] [(26, .val (.agg #[.int .i64 N, .int .i64 R, .slice a n cap])), (27, .row w3.heap.size 69 7 n (eCells es) (fun s => .agg #[.int .i64 N, .int .i64 R, s])), (28, .val (.agg #[.int .i64 y0, .int .i64 y1, .int .i64 y2, .int .i64 y3, .int .i64 y4])), (29, .val (.agg #[.int .i64 y0, .int .i64 y1, .int .i64 y2, .int .i64 y3, .int .i64 y4])), (30, .val (.int .i64 ho)), (31, .val (.int .i64 now)), (32, .row w3.heap.size 69 7 v3.length (eCells v3) (fun s => .tuple #[.agg #[.int .i64 v1, .int .i64 v2, s], .bool vb])), (25, .row w3.heap.size 69 7 v3.length (eCells v3) (fun s => .tuple #[.agg #[.int .i64 v1, .int .i64 v2, s], .bool vb])), (33, .row w3.heap.size 69 7 v3.length (eCells v3) (fun s => .agg #[.int .i64 v1, .int .i64 v2, s])), (34, .val (.bool vb))] rfl (by kernel_rfl) hfr (spAt_free (by kernel_rfl)) hdi (by kernel_rfl) ?_ ?_
  · clear hfr hdi
    refine ⟨?_, ?_, ?_, ?_, ?_, ?_, ?_, ?_, ?_, ?_, ?_, ?_, trivial⟩
    · refine opS_any (d := 26) rfl rfl (by kernel_rfl) ?_
      refine op_val (d := 26) rfl (.agg #[.int .i64 N, .int .i64 R, .slice a n cap]) (fun fr9 wq hf _ hb => ⟨?_, ?_⟩) _
      rotate_left
      · exact rfl
      exact run_ldTl _ _ _ (.tmp 4) _ _ _ _ rfl (hf 4 (by kernel_rfl)) (BP3.out.keep hb)
    · refine opS_any (d := 27) rfl rfl (by kernel_rfl) ?_
      intro fr9 wq hf hd hb
      have e26 : fr9.tmps.getD 26 undef = .agg #[.int .i64 N, .int .i64 R, .slice a n cap] := hd 26 (by kernel_rfl)
      have hv9 : (#[Operand.tmp 26] : Array Operand).map fr9.eval = #[.agg #[.int .i64 N, .int .i64 R, .slice a n cap]] := by simp only [List.map_toArray, List.map_cons, List.map_nil, Act.eval, e26]
      refine ⟨27, rfl, op_call rfl (run_callL _ _ _ 25 _ _ _ rfl rfl hv9 (enters_of Try.func25 (by kernel_rfl) rfl)) ?_⟩
      refine (c_toTable N R a n cap es _ HL.out hn ((RI.out.below AW3.out).below hb)).mono ?_
      rintro e w5 ⟨a5, c5, rfl, o5, g5⟩
      exact ⟨_, rfl, _, rfl, ⟨a5, c5, rfl, row_wider o5 hb.size⟩, grown_below g5⟩
    · refine opS_any (d := 28) rfl rfl (by kernel_rfl) ?_
      refine op_val (d := 28) rfl (.agg #[.int .i64 y0, .int .i64 y1, .int .i64 y2, .int .i64 y3, .int .i64 y4]) (fun fr9 wq hf _ hb => ⟨?_, ?_⟩) _
      rotate_left
      · exact rfl
      exact run_ldFl _ _ _ (.tmp 5) _ _ _ _ _ _ rfl (hf 5 (by kernel_rfl)) (BQ3.out.keep hb)
    · refine opS_any (d := 29) rfl rfl (by kernel_rfl) ?_
      intro fr9 wq hf hd hb
      have e28 : fr9.tmps.getD 28 undef = .agg #[.int .i64 y0, .int .i64 y1, .int .i64 y2, .int .i64 y3, .int .i64 y4] := hd 28 (by kernel_rfl)
      have hv9 : (#[Operand.tmp 28] : Array Operand).map fr9.eval = #[.agg #[.int .i64 y0, .int .i64 y1, .int .i64 y2, .int .i64 y3, .int .i64 y4]] := by simp only [List.map_toArray, List.map_cons, List.map_nil, Act.eval, e28]
      refine ⟨29, rfl, op_call rfl (run_callL _ _ _ 26 _ _ _ rfl rfl hv9 (enters_of Try.func26 (by kernel_rfl) rfl)) ?_⟩
      refine (c_toFlow y0 y1 y2 y3 y4 _).mono ?_
      rintro e w5 ⟨rfl, g5⟩
      exact ⟨_, rfl, _, rfl, rfl, g5⟩
    · refine opS_any (d := 30) rfl rfl (by kernel_rfl) ?_
      refine op_val (d := 30) rfl (.int .i64 ho) (fun fr9 wq hf _ hb => ⟨?_, ?_⟩) _
      rotate_left
      · exact rfl
      exact (run_mv _ _ _ (.tmp 2) _ (hf 2 (by kernel_rfl))).1 rfl
    · refine opS_any (d := 31) rfl rfl (by kernel_rfl) ?_
      refine op_val (d := 31) rfl (.int .i64 now) (fun fr9 wq hf _ hb => ⟨?_, ?_⟩) _
      rotate_left
      · exact rfl
      exact (run_mv _ _ _ (.tmp 3) _ (hf 3 (by kernel_rfl))).1 rfl
    · refine opS_any (d := 32) rfl rfl (by kernel_rfl) ?_
      intro fr9 wq hf hd hb
      obtain ⟨a27, c27, e27, o27⟩ : ∃ (a2 : Option Addr) (c2 : Nat), fr9.tmps.getD 27 undef = .agg #[.int .i64 N, .int .i64 R, .slice a2 n c2] ∧ wq.ownsRow w3.heap.size 69 7 (.slice a2 n c2) n (eCells es) := hd 27 (by kernel_rfl)
      have e29 : fr9.tmps.getD 29 undef = .agg #[.int .i64 y0, .int .i64 y1, .int .i64 y2, .int .i64 y3, .int .i64 y4] := hd 29 (by kernel_rfl)
      have e30 : fr9.tmps.getD 30 undef = .int .i64 ho := hd 30 (by kernel_rfl)
      have e31 : fr9.tmps.getD 31 undef = .int .i64 now := hd 31 (by kernel_rfl)
      have hv9 : (#[Operand.tmp 27, Operand.tmp 29, Operand.tmp 30, Operand.tmp 31] : Array Operand).map fr9.eval = #[.agg #[.int .i64 N, .int .i64 R, .slice a27 n c27], .agg #[.int .i64 y0, .int .i64 y1, .int .i64 y2, .int .i64 y3, .int .i64 y4], .int .i64 ho, .int .i64 now] := by simp only [List.map_toArray, List.map_cons, List.map_nil, Act.eval, e27, e29, e30, e31]
      refine ⟨32, rfl, op_call rfl (run_callL _ _ _ 46 _ _ _ rfl rfl hv9 (enters_of Try.func46 (by kernel_rfl) rfl)) ?_⟩
      refine (s_Tou_v HV.out a27 n c27 _ HL.out hn o27).mono ?_
      rintro e w5 ⟨a5, c5, rfl, o5, g5⟩
      exact ⟨_, rfl, _, rfl, ⟨a5, c5, rfl, row_wider o5 hb.size⟩, grown_below g5⟩
    · refine opS_any (d := 25) rfl rfl (by kernel_rfl) ?_
      intro fr9 wq hf hd hb
      obtain ⟨a32, c32, e32, o32⟩ : ∃ (a2 : Option Addr) (c2 : Nat), fr9.tmps.getD 32 undef = .tuple #[.agg #[.int .i64 v1, .int .i64 v2, .slice a2 v3.length c2], .bool vb] ∧ wq.ownsRow w3.heap.size 69 7 (.slice a2 v3.length c2) v3.length (eCells v3) := hd 32 (by kernel_rfl)
      exact ⟨25, rfl, wp_val2 rfl ((run_mv _ _ _ (.tmp 32) _ e32).1 rfl) ⟨_, rfl, ⟨a32, c32, rfl, o32⟩, Below.refl _ _⟩⟩
    · refine opS_any (d := 33) rfl rfl (by kernel_rfl) ?_
      intro fr9 wq hf hd hb
      obtain ⟨a25, c25, e25, o25⟩ : ∃ (a2 : Option Addr) (c2 : Nat), fr9.tmps.getD 25 undef = .tuple #[.agg #[.int .i64 v1, .int .i64 v2, .slice a2 v3.length c2], .bool vb] ∧ wq.ownsRow w3.heap.size 69 7 (.slice a2 v3.length c2) v3.length (eCells v3) := hd 25 (by kernel_rfl)
      exact ⟨33, rfl, wp_val2 rfl (run_ext _ _ _ (.tmp 25) 0 _ _ rfl e25 rfl) ⟨_, rfl, ⟨a25, c25, rfl, o25⟩, Below.refl _ _⟩⟩
    · refine opS_any (d := 34) rfl rfl (by kernel_rfl) ?_
      intro fr9 wq hf hd hb
      obtain ⟨a25, c25, e25, o25⟩ : ∃ (a2 : Option Addr) (c2 : Nat), fr9.tmps.getD 25 undef = .tuple #[.agg #[.int .i64 v1, .int .i64 v2, .slice a2 v3.length c2], .bool vb] ∧ wq.ownsRow w3.heap.size 69 7 (.slice a2 v3.length c2) v3.length (eCells v3) := hd 25 (by kernel_rfl)
      exact ⟨34, rfl, wp_val2 rfl (run_ext _ _ _ (.tmp 25) 1 _ _ rfl e25 rfl) ⟨_, rfl, rfl, Below.refl _ _⟩⟩
    · exact opS_alloc (d := 10) rfl rfl (fun ρ wq => run_alTi _ ρ wq rfl) _
    · exact opS_store 10 33 30 rfl rfl rfl rfl (by kernel_rfl) (by kernel_rfl) rfl (fun ρ wq g cs u hx hy hb hc hu => st_table rfl g cs u hx hy hb hc hu) _
  · clear hfr hdi
    intro fq wq hf hbq
    have e26 : fq 26 = .agg #[.int .i64 N, .int .i64 R, .slice a n cap] := hf 26 (by decide)
    obtain ⟨a27, c27, e27, o27⟩ : ∃ (a2 : Option Addr) (c2 : Nat), fq 27 = .agg #[.int .i64 N, .int .i64 R, .slice a2 n c2] ∧ wq.ownsRow w3.heap.size 69 7 (.slice a2 n c2) n (eCells es) := hf 27 (by decide)
    clear o27
    have e28 : fq 28 = .agg #[.int .i64 y0, .int .i64 y1, .int .i64 y2, .int .i64 y3, .int .i64 y4] := hf 28 (by decide)
    have e29 : fq 29 = .agg #[.int .i64 y0, .int .i64 y1, .int .i64 y2, .int .i64 y3, .int .i64 y4] := hf 29 (by decide)
    have e30 : fq 30 = .int .i64 ho := hf 30 (by decide)
    have e31 : fq 31 = .int .i64 now := hf 31 (by decide)
    obtain ⟨a32, c32, e32, o32⟩ : ∃ (a2 : Option Addr) (c2 : Nat), fq 32 = .tuple #[.agg #[.int .i64 v1, .int .i64 v2, .slice a2 v3.length c2], .bool vb] ∧ wq.ownsRow w3.heap.size 69 7 (.slice a2 v3.length c2) v3.length (eCells v3) := hf 32 (by decide)
    clear o32
    obtain ⟨a25, c25, e25, o25⟩ : ∃ (a2 : Option Addr) (c2 : Nat), fq 25 = .tuple #[.agg #[.int .i64 v1, .int .i64 v2, .slice a2 v3.length c2], .bool vb] ∧ wq.ownsRow w3.heap.size 69 7 (.slice a2 v3.length c2) v3.length (eCells v3) := hf 25 (by decide)
    clear o25
    obtain ⟨a33, c33, e33, o33⟩ : ∃ (a2 : Option Addr) (c2 : Nat), fq 33 = .agg #[.int .i64 v1, .int .i64 v2, .slice a2 v3.length c2] ∧ wq.ownsRow w3.heap.size 69 7 (.slice a2 v3.length c2) v3.length (eCells v3) := hf 33 (by decide)
    clear o33
    have e34 : fq 34 = .bool vb := hf 34 (by decide)
    obtain ⟨g10, a10, c10, e10, l10, b10, o10⟩ : ∃ (g : Nat) (a2 : Option Addr) (c2 : Nat), fq 10 = .pointer (some ⟨g, 0, none⟩) ∧ w3.heap.size ≤ g ∧ Box wq g 30 (Value.cells (.agg #[.int .i64 v1, .int .i64 v2, .slice a2 v3.length c2])).toList ∧ wq.ownsRow w3.heap.size 69 7 (.slice a2 v3.length c2) v3.length (eCells v3) := by
      obtain ⟨g, u, h1, h2, h3, a2, c2, rfl, h4⟩ := hf 10 (by decide)
      exact ⟨g, a2, c2, h1, h2, h3, h4⟩
    simp only [List.drop_succ_cons, List.drop_zero, putL, Act.put, List.setIfInBounds_toArray, List.set_cons_succ, List.set_cons_zero, e26, e27, e28, e29, e30, e31, e32, e25, e33, e34, e10]
    clear hf e26 e27 e28 e29 e30 e31 e32 e25 e33 e34 e10
    obtain ⟨w4, rfl⟩ : ∃ W, W = wq := ⟨_, rfl⟩
    have z4 := hbq.size
    have D4 := Lib.hid (Below.step D3.out hbq (by omega))
    have AW4 := Lib.hid (Below.step AW3.out hbq (by omega))
    have BP4 := Lib.hid (BP3.out.keep hbq)
    have BQ4 := Lib.hid (BQ3.out.keep hbq)
    have BY4 : Hid (Box w4 g10 30 [.int .i64 v1, .int .i64 v2, .slice a10 v3.length c10]) := Lib.hid b10
    have hgl10 := BY4.out.lt
    clear b10
    have OY4 : Hid (w4.ownsRow w3.heap.size 69 7 (.slice a10 v3.length c10) v3.length (eCells v3)) := Lib.hid o10
    have LY := Lib.hid (fun k hk => OY4.out.lt k hk)
    clear o10
    clear hbq
    clear AW3 BP3 BQ3
    obtain ⟨xP0, xP1, xP2, xPf⟩ := BP4.out.three
    go_wp2_with fail
    refine (c_toTable N R a n cap es _ HL.out hn (RI.out.below AW4.out)).mono ?_; rintro e w5 ⟨a5, c5, rfl, o5, g5⟩
    clear xP0 xP1 xP2 xPf
    have z5 := (grown_below g5).size
    have D5 := Lib.hid (Below.step D4.out (grown_below g5) (by omega))
    have AW5 := Lib.hid (Below.step AW4.out (grown_below g5) (by omega))
    have BP5 := Lib.hid (BP4.out.keep (grown_below g5))
    have BQ5 := Lib.hid (BQ4.out.keep (grown_below g5))
    have BY5 := Lib.hid (BY4.out.keep (grown_below g5))
    have OY5 := Lib.hid (row_below OY4.out (grown_below g5))
    have OX05 := Lib.hid o5
    have LX0 := Lib.hid (fun k hk => o5.lt k hk)
    clear g5 o5
    clear AW4 BP4 BQ4 BY4 OY4
    obtain ⟨w6, hw6, hb6, hz6, hx6⟩ : ∃ W, W = w5.alloc (.cells #[.int .i64 N, .int .i64 R, .slice a5 n c5] 30) ∧ Below w5.heap.size w5 W ∧ W.heap.size = w5.heap.size + 1 ∧ Box W w5.heap.size 30 [.int .i64 N, .int .i64 R, .slice a5 n c5] := head1 w5 30 _
    have q6 := hz6
    have HW6 := Lib.hid hw6
    have z6 : w5.heap.size + 1 ≤ w6.heap.size := by omega
    have D6 := Lib.hid (Below.step D5.out hb6 (by omega))
    have AW6 := Lib.hid (Below.step AW5.out hb6 (by omega))
    have BP6 := Lib.hid (BP5.out.keep hb6)
    have BQ6 := Lib.hid (BQ5.out.keep hb6)
    have BY6 := Lib.hid (BY5.out.keep hb6)
    have OY6 := Lib.hid (row_below OY5.out hb6)
    have OX06 := Lib.hid (row_below OX05.out hb6)
    have BX06 := Lib.hid hx6
    clear hw6 hb6 hz6 hx6
    go_upto_region 7 with fail
    rw [← HW6.out]
    obtain ⟨hfr, hdi⟩ := bs_one (x := ⟨13, 30, [.int .i64 0, .int .i64 0, .slice none 0 0], .row w6.heap.size 69 7 v3.length (eCells v3) (fun s => .agg #[.int .i64 v1, .int .i64 v2, s])⟩) (by kernel_rfl)
    refine region_anyS _ 11 114 [38, 39, 40, 41, 42, 43, 37, 44, 45, 13] [⟨13, 30, [.int .i64 0, .int .i64 0, .slice none 0 0], .row w6.heap.size 69 7 v3.length (eCells v3) (fun s => .agg #[.int .i64 v1, .int .i64 v2, s])⟩] [(38, .val (.agg #[.int .i64 N, .int .i64 R, .slice a5 n c5])), (39, .val (.agg #[.int .i64 y0, .int .i64 y1, .int .i64 y2, .int .i64 y3, .int .i64 y4])), (40, .val (.agg #[.int .i64 y0, .int .i64 y1, .int .i64 y2, .int .i64 y3, .int .i64 y4])), (41, .val (.int .i64 ho)), (42, .val (.int .i64 now)), (43, .row w6.heap.size 69 7 v3.length (eCells v3) (fun s => .tuple #[.agg #[.int .i64 v1, .int .i64 v2, s], .bool vb])), (37, .row w6.heap.size 69 7 v3.length (eCells v3) (fun s => .tuple #[.agg #[.int .i64 v1, .int .i64 v2, s], .bool vb])), (44, .row w6.heap.size 69 7 v3.length (eCells v3) (fun s => .agg #[.int .i64 v1, .int .i64 v2, s])), (45, .val (.bool vb))] rfl (by kernel_rfl) hfr (spAt_free (by kernel_rfl)) hdi (by kernel_rfl) ?_ ?_
    · clear hfr hdi
      refine ⟨?_, ?_, ?_, ?_, ?_, ?_, ?_, ?_, ?_, ?_, ?_, trivial⟩
      · refine opS_any (d := 38) rfl rfl (by kernel_rfl) ?_
        refine op_val (d := 38) rfl (.agg #[.int .i64 N, .int .i64 R, .slice a5 n c5]) (fun fr9 wq hf _ hb => ⟨?_, ?_⟩) _
        rotate_left
        · exact rfl
        exact run_ldTi _ _ _ (.tmp 12) _ _ _ _ rfl (hf 12 (by kernel_rfl)) (BX06.out.keep hb)
      · refine opS_any (d := 39) rfl rfl (by kernel_rfl) ?_
        refine op_val (d := 39) rfl (.agg #[.int .i64 y0, .int .i64 y1, .int .i64 y2, .int .i64 y3, .int .i64 y4]) (fun fr9 wq hf _ hb => ⟨?_, ?_⟩) _
        rotate_left
        · exact rfl
        exact run_ldFl _ _ _ (.tmp 5) _ _ _ _ _ _ rfl (hf 5 (by kernel_rfl)) (BQ6.out.keep hb)
      · refine opS_any (d := 40) rfl rfl (by kernel_rfl) ?_
        intro fr9 wq hf hd hb
        have e39 : fr9.tmps.getD 39 undef = .agg #[.int .i64 y0, .int .i64 y1, .int .i64 y2, .int .i64 y3, .int .i64 y4] := hd 39 (by kernel_rfl)
        have hv9 : (#[Operand.tmp 39] : Array Operand).map fr9.eval = #[.agg #[.int .i64 y0, .int .i64 y1, .int .i64 y2, .int .i64 y3, .int .i64 y4]] := by simp only [List.map_toArray, List.map_cons, List.map_nil, Act.eval, e39]
        refine ⟨40, rfl, op_call rfl (run_callL _ _ _ 26 _ _ _ rfl rfl hv9 (enters_of Try.func26 (by kernel_rfl) rfl)) ?_⟩
        refine (c_toFlow y0 y1 y2 y3 y4 _).mono ?_
        rintro e w5 ⟨rfl, g5⟩
        exact ⟨_, rfl, _, rfl, rfl, g5⟩
      · refine opS_any (d := 41) rfl rfl (by kernel_rfl) ?_
        refine op_val (d := 41) rfl (.int .i64 ho) (fun fr9 wq hf _ hb => ⟨?_, ?_⟩) _
        rotate_left
        · exact rfl
        exact (run_mv _ _ _ (.tmp 2) _ (hf 2 (by kernel_rfl))).1 rfl
      · refine opS_any (d := 42) rfl rfl (by kernel_rfl) ?_
        refine op_val (d := 42) rfl (.int .i64 now) (fun fr9 wq hf _ hb => ⟨?_, ?_⟩) _
        rotate_left
        · exact rfl
        exact (run_mv _ _ _ (.tmp 3) _ (hf 3 (by kernel_rfl))).1 rfl
      · refine opS_any (d := 43) rfl rfl (by kernel_rfl) ?_
        intro fr9 wq hf hd hb
        have e38 : fr9.tmps.getD 38 undef = .agg #[.int .i64 N, .int .i64 R, .slice a5 n c5] := hd 38 (by kernel_rfl)
        have e40 : fr9.tmps.getD 40 undef = .agg #[.int .i64 y0, .int .i64 y1, .int .i64 y2, .int .i64 y3, .int .i64 y4] := hd 40 (by kernel_rfl)
        have e41 : fr9.tmps.getD 41 undef = .int .i64 ho := hd 41 (by kernel_rfl)
        have e42 : fr9.tmps.getD 42 undef = .int .i64 now := hd 42 (by kernel_rfl)
        have hv9 : (#[Operand.tmp 38, Operand.tmp 40, Operand.tmp 41, Operand.tmp 42] : Array Operand).map fr9.eval = #[.agg #[.int .i64 N, .int .i64 R, .slice a5 n c5], .agg #[.int .i64 y0, .int .i64 y1, .int .i64 y2, .int .i64 y3, .int .i64 y4], .int .i64 ho, .int .i64 now] := by simp only [List.map_toArray, List.map_cons, List.map_nil, Act.eval, e38, e40, e41, e42]
        refine ⟨43, rfl, op_call rfl (run_callL _ _ _ 45 _ _ _ rfl rfl hv9 (enters_of Try.func45 (by kernel_rfl) rfl)) ?_⟩
        refine (c_Tou_v HV.out a5 n c5 _ HL.out hn (row_below OX06.out hb)).mono ?_
        rintro e w5 ⟨a5, c5, rfl, o5, g5⟩
        exact ⟨_, rfl, _, rfl, ⟨a5, c5, rfl, row_wider o5 hb.size⟩, grown_below g5⟩
      · refine opS_any (d := 37) rfl rfl (by kernel_rfl) ?_
        intro fr9 wq hf hd hb
        obtain ⟨a43, c43, e43, o43⟩ : ∃ (a2 : Option Addr) (c2 : Nat), fr9.tmps.getD 43 undef = .tuple #[.agg #[.int .i64 v1, .int .i64 v2, .slice a2 v3.length c2], .bool vb] ∧ wq.ownsRow w6.heap.size 69 7 (.slice a2 v3.length c2) v3.length (eCells v3) := hd 43 (by kernel_rfl)
        exact ⟨37, rfl, wp_val2 rfl ((run_mv _ _ _ (.tmp 43) _ e43).1 rfl) ⟨_, rfl, ⟨a43, c43, rfl, o43⟩, Below.refl _ _⟩⟩
      · refine opS_any (d := 44) rfl rfl (by kernel_rfl) ?_
        intro fr9 wq hf hd hb
        obtain ⟨a37, c37, e37, o37⟩ : ∃ (a2 : Option Addr) (c2 : Nat), fr9.tmps.getD 37 undef = .tuple #[.agg #[.int .i64 v1, .int .i64 v2, .slice a2 v3.length c2], .bool vb] ∧ wq.ownsRow w6.heap.size 69 7 (.slice a2 v3.length c2) v3.length (eCells v3) := hd 37 (by kernel_rfl)
        exact ⟨44, rfl, wp_val2 rfl (run_ext _ _ _ (.tmp 37) 0 _ _ rfl e37 rfl) ⟨_, rfl, ⟨a37, c37, rfl, o37⟩, Below.refl _ _⟩⟩
      · refine opS_any (d := 45) rfl rfl (by kernel_rfl) ?_
        intro fr9 wq hf hd hb
        obtain ⟨a37, c37, e37, o37⟩ : ∃ (a2 : Option Addr) (c2 : Nat), fr9.tmps.getD 37 undef = .tuple #[.agg #[.int .i64 v1, .int .i64 v2, .slice a2 v3.length c2], .bool vb] ∧ wq.ownsRow w6.heap.size 69 7 (.slice a2 v3.length c2) v3.length (eCells v3) := hd 37 (by kernel_rfl)
        exact ⟨45, rfl, wp_val2 rfl (run_ext _ _ _ (.tmp 37) 1 _ _ rfl e37 rfl) ⟨_, rfl, rfl, Below.refl _ _⟩⟩
      · exact opS_alloc (d := 13) rfl rfl (fun ρ wq => run_alTi _ ρ wq rfl) _
      · exact opS_store 13 44 30 rfl rfl rfl rfl (by kernel_rfl) (by kernel_rfl) rfl (fun ρ wq g cs u hx hy hb hc hu => st_table rfl g cs u hx hy hb hc hu) _
    · clear hfr hdi
      intro fq wq hf hbq
      have e38 : fq 38 = .agg #[.int .i64 N, .int .i64 R, .slice a5 n c5] := hf 38 (by decide)
      have e39 : fq 39 = .agg #[.int .i64 y0, .int .i64 y1, .int .i64 y2, .int .i64 y3, .int .i64 y4] := hf 39 (by decide)
      have e40 : fq 40 = .agg #[.int .i64 y0, .int .i64 y1, .int .i64 y2, .int .i64 y3, .int .i64 y4] := hf 40 (by decide)
      have e41 : fq 41 = .int .i64 ho := hf 41 (by decide)
      have e42 : fq 42 = .int .i64 now := hf 42 (by decide)
      obtain ⟨a43, c43, e43, o43⟩ : ∃ (a2 : Option Addr) (c2 : Nat), fq 43 = .tuple #[.agg #[.int .i64 v1, .int .i64 v2, .slice a2 v3.length c2], .bool vb] ∧ wq.ownsRow w6.heap.size 69 7 (.slice a2 v3.length c2) v3.length (eCells v3) := hf 43 (by decide)
      clear o43
      obtain ⟨a37, c37, e37, o37⟩ : ∃ (a2 : Option Addr) (c2 : Nat), fq 37 = .tuple #[.agg #[.int .i64 v1, .int .i64 v2, .slice a2 v3.length c2], .bool vb] ∧ wq.ownsRow w6.heap.size 69 7 (.slice a2 v3.length c2) v3.length (eCells v3) := hf 37 (by decide)
      clear o37
      obtain ⟨a44, c44, e44, o44⟩ : ∃ (a2 : Option Addr) (c2 : Nat), fq 44 = .agg #[.int .i64 v1, .int .i64 v2, .slice a2 v3.length c2] ∧ wq.ownsRow w6.heap.size 69 7 (.slice a2 v3.length c2) v3.length (eCells v3) := hf 44 (by decide)
      clear o44
      have e45 : fq 45 = .bool vb := hf 45 (by decide)
      obtain ⟨g13, a13, c13, e13, l13, b13, o13⟩ : ∃ (g : Nat) (a2 : Option Addr) (c2 : Nat), fq 13 = .pointer (some ⟨g, 0, none⟩) ∧ w6.heap.size ≤ g ∧ Box wq g 30 (Value.cells (.agg #[.int .i64 v1, .int .i64 v2, .slice a2 v3.length c2])).toList ∧ wq.ownsRow w6.heap.size 69 7 (.slice a2 v3.length c2) v3.length (eCells v3) := by
        obtain ⟨g, u, h1, h2, h3, a2, c2, rfl, h4⟩ := hf 13 (by decide)
        exact ⟨g, a2, c2, h1, h2, h3, h4⟩
      simp only [List.drop_succ_cons, List.drop_zero, putL, Act.put, List.setIfInBounds_toArray, List.set_cons_succ, List.set_cons_zero, e38, e39, e40, e41, e42, e43, e37, e44, e45, e13]
      clear hf e38 e39 e40 e41 e42 e43 e37 e44 e45 e13
      obtain ⟨w7, rfl⟩ : ∃ W, W = wq := ⟨_, rfl⟩
      have z7 := hbq.size
      have D7 := Lib.hid (Below.step D6.out hbq (by omega))
      have AW7 := Lib.hid (Below.step AW6.out hbq (by omega))
      have BP7 := Lib.hid (BP6.out.keep hbq)
      have BQ7 := Lib.hid (BQ6.out.keep hbq)
      have BY7 := Lib.hid (BY6.out.keep hbq)
      have BX07 := Lib.hid (BX06.out.keep hbq)
      have OY7 := Lib.hid (row_below OY6.out hbq)
      have OX07 := Lib.hid (row_below OX06.out hbq)
      have BG7 : Hid (Box w7 g13 30 [.int .i64 v1, .int .i64 v2, .slice a13 v3.length c13]) := Lib.hid b13
      have hgl13 := BG7.out.lt
      clear b13
      have OG7 : Hid (w7.ownsRow w6.heap.size 69 7 (.slice a13 v3.length c13) v3.length (eCells v3)) := Lib.hid o13
      have LG := Lib.hid (fun k hk => OG7.out.lt k hk)
      clear o13
      clear hbq
      clear AW5 BP5 BQ5 BY5 OY5 OX05
      clear AW6 BP6 BQ6 BY6 BX06 OY6 OX06
      obtain ⟨xG0, xG1, xG2, xGf⟩ := BG7.out.three
      obtain ⟨xY0, xY1, xY2, xYf⟩ := BY7.out.three
      go_wp2_with fail
      refine (c_eqTable v1 v2 _ _ v3.length _ _ v3 _ rfl HN3.out (EntRow.ents OG7.out) (EntRow.ents OY7.out)).mono ?_; rintro e w8 ⟨rfl, g8⟩
      clear xG0 xG1 xG2 xGf xY0 xY1 xY2 xYf
      have z8 := g8.size
      have D8 := Lib.hid (Below.step D7.out g8 (by omega))
      have AW8 := Lib.hid (Below.step AW7.out g8 (by omega))
      have BP8 := Lib.hid (BP7.out.keep g8)
      have BQ8 := Lib.hid (BQ7.out.keep g8)
      have BY8 := Lib.hid (BY7.out.keep g8)
      have BX08 := Lib.hid (BX07.out.keep g8)
      have BG8 := Lib.hid (BG7.out.keep g8)
      have OY8 := Lib.hid (row_below OY7.out g8)
      have OX08 := Lib.hid (row_below OX07.out g8)
      have OG8 := Lib.hid (row_below OG7.out g8)
      clear g8
      clear AW7 BP7 BQ7 BY7 BX07 BG7 OY7 OX07 OG7
      go_wp2_with fail
      go_upto_region 10 with fail
      refine region_any _ 4 114 [55, 56, 57, 58] [(55, .val (.agg #[.int .i64 N, .int .i64 R, .slice a5 n c5])), (56, .val (.agg #[.int .i64 N, .int .i64 R, .slice a n cap])), (57, .row w8.heap.size 69 7 n (eCells es) (fun s => .agg #[.int .i64 N, .int .i64 R, s])), (58, .val (.bool true))] rfl (by kernel_rfl) ?_ ?_
      · refine ⟨?_, ?_, ?_, ?_, trivial⟩
        · refine op_val (d := 55) rfl (.agg #[.int .i64 N, .int .i64 R, .slice a5 n c5]) (fun fr9 wq hf _ hb => ⟨?_, ?_⟩) _
          rotate_left
          · exact rfl
          exact run_ldTi _ _ _ (.tmp 12) _ _ _ _ rfl (hf 12 (by kernel_rfl)) (BX08.out.keep hb)
        · refine op_val (d := 56) rfl (.agg #[.int .i64 N, .int .i64 R, .slice a n cap]) (fun fr9 wq hf _ hb => ⟨?_, ?_⟩) _
          rotate_left
          · exact rfl
          exact run_ldTl _ _ _ (.tmp 4) _ _ _ _ rfl (hf 4 (by kernel_rfl)) (BP8.out.keep hb)
        · intro fr9 wq hf hd hb
          have e56 : fr9.tmps.getD 56 undef = .agg #[.int .i64 N, .int .i64 R, .slice a n cap] := hd 56 (by kernel_rfl)
          have hv9 : (#[Operand.tmp 56] : Array Operand).map fr9.eval = #[.agg #[.int .i64 N, .int .i64 R, .slice a n cap]] := by simp only [List.map_toArray, List.map_cons, List.map_nil, Act.eval, e56]
          refine ⟨57, rfl, op_call rfl (run_callL _ _ _ 25 _ _ _ rfl rfl hv9 (enters_of Try.func25 (by kernel_rfl) rfl)) ?_⟩
          refine (c_toTable N R a n cap es _ HL.out hn ((RI.out.below AW8.out).below hb)).mono ?_
          rintro e w5 ⟨a5, c5, rfl, o5, g5⟩
          exact ⟨_, rfl, _, rfl, ⟨a5, c5, rfl, row_wider o5 hb.size⟩, grown_below g5⟩
        · intro fr9 wq hf hd hb
          have e55 : fr9.tmps.getD 55 undef = .agg #[.int .i64 N, .int .i64 R, .slice a5 n c5] := hd 55 (by kernel_rfl)
          obtain ⟨a57, c57, e57, o57⟩ : ∃ (a2 : Option Addr) (c2 : Nat), fr9.tmps.getD 57 undef = .agg #[.int .i64 N, .int .i64 R, .slice a2 n c2] ∧ wq.ownsRow w8.heap.size 69 7 (.slice a2 n c2) n (eCells es) := hd 57 (by kernel_rfl)
          have hv9 : (#[Operand.tmp 55, Operand.tmp 57] : Array Operand).map fr9.eval = #[.agg #[.int .i64 N, .int .i64 R, .slice a5 n c5], .agg #[.int .i64 N, .int .i64 R, .slice a57 n c57]] := by simp only [List.map_toArray, List.map_cons, List.map_nil, Act.eval, e55, e57]
          refine ⟨58, rfl, op_call rfl (run_callL _ _ _ 28 _ _ _ rfl rfl hv9 (enters_of Try.func28 (by kernel_rfl) rfl)) ?_⟩
          refine (c_eqTable N R _ _ n _ _ es _ HL.out hn (EntRow.ents (row_below OX08.out hb)) (EntRow.ents o57)).mono ?_
          rintro e w5 ⟨rfl, g5⟩
          exact ⟨_, rfl, _, rfl, rfl, g5⟩
      · intro fq wq hf hbq
        have e55 : fq 55 = .agg #[.int .i64 N, .int .i64 R, .slice a5 n c5] := hf 55 (by decide)
        have e56 : fq 56 = .agg #[.int .i64 N, .int .i64 R, .slice a n cap] := hf 56 (by decide)
        obtain ⟨a57, c57, e57, o57⟩ : ∃ (a2 : Option Addr) (c2 : Nat), fq 57 = .agg #[.int .i64 N, .int .i64 R, .slice a2 n c2] ∧ wq.ownsRow w8.heap.size 69 7 (.slice a2 n c2) n (eCells es) := hf 57 (by decide)
        have e58 : fq 58 = .bool true := hf 58 (by decide)
        simp only [List.drop_succ_cons, List.drop_zero, putL, Act.put, List.setIfInBounds_toArray, List.set_cons_succ, List.set_cons_zero, e55, e56, e57, e58]
        clear hf e55 e56 e57 e58
        obtain ⟨w9, rfl⟩ : ∃ W, W = wq := ⟨_, rfl⟩
        have z9 := hbq.size
        have D9 := Lib.hid (Below.step D8.out hbq (by omega))
        have AW9 := Lib.hid (Below.step AW8.out hbq (by omega))
        have BP9 := Lib.hid (BP8.out.keep hbq)
        have BQ9 := Lib.hid (BQ8.out.keep hbq)
        have BY9 := Lib.hid (BY8.out.keep hbq)
        have BX09 := Lib.hid (BX08.out.keep hbq)
        have BG9 := Lib.hid (BG8.out.keep hbq)
        have OY9 := Lib.hid (row_below OY8.out hbq)
        have OX09 := Lib.hid (row_below OX08.out hbq)
        have OG9 := Lib.hid (row_below OG8.out hbq)
        clear hbq o57
        clear AW8 BP8 BQ8 BY8 BX08 BG8 OY8 OX08 OG8
        obtain ⟨xX00, xX01, xX02, xX0f⟩ := BX09.out.three
        go_wp2_with fail
        refine (c_markTable _ N R _ n _ 1 _ _ hn (by omega) (by omega) OX09.out).mono ?_; rintro e w10 ⟨rfl, o10, g10⟩
        clear xX00 xX01 xX02 xX0f
        have z10 := g10.size
        have D10 := Lib.hid (D9.out.grown g10 (by omega) (fun k hk => by have := (LX0.out k hk).1; omega))
        have AW10 := Lib.hid (AW9.out.grown g10 (by omega) (fun k hk => by have := (LX0.out k hk).1; omega))
        have BP10 := Lib.hid (Box.kept BP9.out g10 (row_ne OX09.out BP9.out (by decide)))
        have BQ10 := Lib.hid (Box.kept BQ9.out g10 (row_ne OX09.out BQ9.out (by decide)))
        have BY10 := Lib.hid (Box.kept BY9.out g10 (row_ne OX09.out BY9.out (by decide)))
        have BX010 := Lib.hid (Box.kept BX09.out g10 (row_ne OX09.out BX09.out (by decide)))
        have BG10 := Lib.hid (Box.kept BG9.out g10 (row_ne OX09.out BG9.out (by decide)))
        have OY10 := Lib.hid (row_kept OY9.out g10 (fun k hk h => by have := LY.out k hk; have := LX0.out k h; omega))
        have OG10 := Lib.hid (row_kept OG9.out g10 (fun k hk h => by have := LG.out k hk; have := LX0.out k h; omega))
        have OX010 := Lib.hid o10
        clear o10 g10
        clear AW9 BP9 BQ9 BY9 BX09 BG9 OY9 OX09 OG9
        have hk1 : ¬ (1 + 7 * (n : Int) < 0) := by omega
        obtain ⟨xG0, xG1, xG2, xGf⟩ := BG10.out.three
        obtain ⟨xY0, xY1, xY2, xYf⟩ := BY10.out.three
        go_wp2_with fail
        refine (c_eqTable v1 v2 _ _ v3.length _ _ v3 _ rfl HN3.out (EntRow.ents OG10.out) (EntRow.ents OY10.out)).mono ?_; rintro e w11 ⟨rfl, g11⟩
        clear xG0 xG1 xG2 xGf xY0 xY1 xY2 xYf
        have z11 := g11.size
        have D11 := Lib.hid (Below.step D10.out g11 (by omega))
        have AW11 := Lib.hid (Below.step AW10.out g11 (by omega))
        have BP11 := Lib.hid (BP10.out.keep g11)
        have BQ11 := Lib.hid (BQ10.out.keep g11)
        have BY11 := Lib.hid (BY10.out.keep g11)
        have BX011 := Lib.hid (BX010.out.keep g11)
        have BG11 := Lib.hid (BG10.out.keep g11)
        have OY11 := Lib.hid (row_below OY10.out g11)
        have OX011 := Lib.hid (row_below OX010.out g11)
        have OG11 := Lib.hid (row_below OG10.out g11)
        clear g11
        clear AW10 BP10 BQ10 BY10 BX010 BG10 OY10 OX010 OG10
        obtain ⟨xG0, xG1, xG2, xGf⟩ := BG11.out.three
        go_wp2_with fail
        refine (c_markTable _ v1 v2 _ v3.length _ 1 _ _ HN3.out (by omega) (by omega) OG11.out).mono ?_; rintro e w12 ⟨rfl, o12, g12⟩
        clear xG0 xG1 xG2 xGf
        have z12 := g12.size
        have D12 := Lib.hid (D11.out.grown g12 (by omega) (fun k hk => by have := (LG.out k hk).1; omega))
        have AW12 := Lib.hid (AW11.out.grown g12 (by omega) (fun k hk => by have := (LG.out k hk).1; omega))
        have BP12 := Lib.hid (Box.kept BP11.out g12 (row_ne OG11.out BP11.out (by decide)))
        have BQ12 := Lib.hid (Box.kept BQ11.out g12 (row_ne OG11.out BQ11.out (by decide)))
        have BY12 := Lib.hid (Box.kept BY11.out g12 (row_ne OG11.out BY11.out (by decide)))
        have BX012 := Lib.hid (Box.kept BX011.out g12 (row_ne OG11.out BX011.out (by decide)))
        have BG12 := Lib.hid (Box.kept BG11.out g12 (row_ne OG11.out BG11.out (by decide)))
        have OY12 := Lib.hid (row_kept OY11.out g12 (fun k hk h => by have := LY.out k hk; have := LG.out k h; omega))
        have OX012 := Lib.hid (row_kept OX011.out g12 (fun k hk h => by have := LX0.out k hk; have := LG.out k h; omega))
        have OG12 := Lib.hid o12
        clear o12 g12
        clear AW11 BP11 BQ11 BY11 BX011 BG11 OY11 OX011 OG11
        have hh1 : ¬ (1 + 7 * (v3.length : Int) < 0) := by omega
        obtain ⟨xG0, xG1, xG2, xGf⟩ := BG12.out.three
        go_wp2_with fail
        refine (c_heldTable v1 v2 _ v3.length _ 1 _ HN3.out (by omega) (by omega) (row_vals OG12.out)).mono ?_; rintro e w13 ⟨rfl, g13⟩
        clear xG0 xG1 xG2 xGf
        have z13 := g13.size
        have D13 := Lib.hid (Below.step D12.out g13 (by omega))
        have AW13 := Lib.hid (Below.step AW12.out g13 (by omega))
        have BP13 := Lib.hid (BP12.out.keep g13)
        have BQ13 := Lib.hid (BQ12.out.keep g13)
        have BY13 := Lib.hid (BY12.out.keep g13)
        have BX013 := Lib.hid (BX012.out.keep g13)
        have BG13 := Lib.hid (BG12.out.keep g13)
        have OY13 := Lib.hid (row_below OY12.out g13)
        have OX013 := Lib.hid (row_below OX012.out g13)
        have OG13 := Lib.hid (row_below OG12.out g13)
        clear g13
        clear AW12 BP12 BQ12 BY12 BX012 BG12 OY12 OX012 OG12
        go_upto_region 24 with fail
        obtain ⟨hfr, hdi⟩ := bs_one (x := ⟨18, 30, [.int .i64 0, .int .i64 0, .slice none 0 0], .row w13.heap.size 69 7 v3.length (eCells v3) (fun s => .agg #[.int .i64 v1, .int .i64 v2, s])⟩) (by kernel_rfl)
        refine region_anyS _ 12 114 [88, 89, 90, 91, 92, 93, 94, 87, 95, 96, 18] [⟨18, 30, [.int .i64 0, .int .i64 0, .slice none 0 0], .row w13.heap.size 69 7 v3.length (eCells v3) (fun s => .agg #[.int .i64 v1, .int .i64 v2, s])⟩] [(88, .val (.agg #[.int .i64 N, .int .i64 R, .slice a n cap])), (89, .row w13.heap.size 69 7 n (eCells es) (fun s => .agg #[.int .i64 N, .int .i64 R, s])), (90, .val (.agg #[.int .i64 y0, .int .i64 y1, .int .i64 y2, .int .i64 y3, .int .i64 y4])), (91, .val (.agg #[.int .i64 y0, .int .i64 y1, .int .i64 y2, .int .i64 y3, .int .i64 y4])), (92, .val (.int .i64 ho)), (93, .val (.int .i64 now)), (94, .row w13.heap.size 69 7 v3.length (eCells v3) (fun s => .tuple #[.agg #[.int .i64 v1, .int .i64 v2, s], .bool vb])), (87, .row w13.heap.size 69 7 v3.length (eCells v3) (fun s => .tuple #[.agg #[.int .i64 v1, .int .i64 v2, s], .bool vb])), (95, .row w13.heap.size 69 7 v3.length (eCells v3) (fun s => .agg #[.int .i64 v1, .int .i64 v2, s])), (96, .val (.bool vb))] rfl (by kernel_rfl) hfr (spAt_free (by kernel_rfl)) hdi (by kernel_rfl) ?_ ?_
        · clear hfr hdi
          refine ⟨?_, ?_, ?_, ?_, ?_, ?_, ?_, ?_, ?_, ?_, ?_, ?_, trivial⟩
          · refine opS_any (d := 88) rfl rfl (by kernel_rfl) ?_
            refine op_val (d := 88) rfl (.agg #[.int .i64 N, .int .i64 R, .slice a n cap]) (fun fr9 wq hf _ hb => ⟨?_, ?_⟩) _
            rotate_left
            · exact rfl
            exact run_ldTl _ _ _ (.tmp 4) _ _ _ _ rfl (hf 4 (by kernel_rfl)) (BP13.out.keep hb)
          · refine opS_any (d := 89) rfl rfl (by kernel_rfl) ?_
            intro fr9 wq hf hd hb
            have e88 : fr9.tmps.getD 88 undef = .agg #[.int .i64 N, .int .i64 R, .slice a n cap] := hd 88 (by kernel_rfl)
            have hv9 : (#[Operand.tmp 88] : Array Operand).map fr9.eval = #[.agg #[.int .i64 N, .int .i64 R, .slice a n cap]] := by simp only [List.map_toArray, List.map_cons, List.map_nil, Act.eval, e88]
            refine ⟨89, rfl, op_call rfl (run_callL _ _ _ 25 _ _ _ rfl rfl hv9 (enters_of Try.func25 (by kernel_rfl) rfl)) ?_⟩
            refine (c_toTable N R a n cap es _ HL.out hn ((RI.out.below AW13.out).below hb)).mono ?_
            rintro e w5 ⟨a5, c5, rfl, o5, g5⟩
            exact ⟨_, rfl, _, rfl, ⟨a5, c5, rfl, row_wider o5 hb.size⟩, grown_below g5⟩
          · refine opS_any (d := 90) rfl rfl (by kernel_rfl) ?_
            refine op_val (d := 90) rfl (.agg #[.int .i64 y0, .int .i64 y1, .int .i64 y2, .int .i64 y3, .int .i64 y4]) (fun fr9 wq hf _ hb => ⟨?_, ?_⟩) _
            rotate_left
            · exact rfl
            exact run_ldFl _ _ _ (.tmp 5) _ _ _ _ _ _ rfl (hf 5 (by kernel_rfl)) (BQ13.out.keep hb)
          · refine opS_any (d := 91) rfl rfl (by kernel_rfl) ?_
            intro fr9 wq hf hd hb
            have e90 : fr9.tmps.getD 90 undef = .agg #[.int .i64 y0, .int .i64 y1, .int .i64 y2, .int .i64 y3, .int .i64 y4] := hd 90 (by kernel_rfl)
            have hv9 : (#[Operand.tmp 90] : Array Operand).map fr9.eval = #[.agg #[.int .i64 y0, .int .i64 y1, .int .i64 y2, .int .i64 y3, .int .i64 y4]] := by simp only [List.map_toArray, List.map_cons, List.map_nil, Act.eval, e90]
            refine ⟨91, rfl, op_call rfl (run_callL _ _ _ 26 _ _ _ rfl rfl hv9 (enters_of Try.func26 (by kernel_rfl) rfl)) ?_⟩
            refine (c_toFlow y0 y1 y2 y3 y4 _).mono ?_
            rintro e w5 ⟨rfl, g5⟩
            exact ⟨_, rfl, _, rfl, rfl, g5⟩
          · refine opS_any (d := 92) rfl rfl (by kernel_rfl) ?_
            refine op_val (d := 92) rfl (.int .i64 ho) (fun fr9 wq hf _ hb => ⟨?_, ?_⟩) _
            rotate_left
            · exact rfl
            exact (run_mv _ _ _ (.tmp 2) _ (hf 2 (by kernel_rfl))).1 rfl
          · refine opS_any (d := 93) rfl rfl (by kernel_rfl) ?_
            refine op_val (d := 93) rfl (.int .i64 now) (fun fr9 wq hf _ hb => ⟨?_, ?_⟩) _
            rotate_left
            · exact rfl
            exact (run_mv _ _ _ (.tmp 3) _ (hf 3 (by kernel_rfl))).1 rfl
          · refine opS_any (d := 94) rfl rfl (by kernel_rfl) ?_
            intro fr9 wq hf hd hb
            obtain ⟨a89, c89, e89, o89⟩ : ∃ (a2 : Option Addr) (c2 : Nat), fr9.tmps.getD 89 undef = .agg #[.int .i64 N, .int .i64 R, .slice a2 n c2] ∧ wq.ownsRow w13.heap.size 69 7 (.slice a2 n c2) n (eCells es) := hd 89 (by kernel_rfl)
            have e91 : fr9.tmps.getD 91 undef = .agg #[.int .i64 y0, .int .i64 y1, .int .i64 y2, .int .i64 y3, .int .i64 y4] := hd 91 (by kernel_rfl)
            have e92 : fr9.tmps.getD 92 undef = .int .i64 ho := hd 92 (by kernel_rfl)
            have e93 : fr9.tmps.getD 93 undef = .int .i64 now := hd 93 (by kernel_rfl)
            have hv9 : (#[Operand.tmp 89, Operand.tmp 91, Operand.tmp 92, Operand.tmp 93] : Array Operand).map fr9.eval = #[.agg #[.int .i64 N, .int .i64 R, .slice a89 n c89], .agg #[.int .i64 y0, .int .i64 y1, .int .i64 y2, .int .i64 y3, .int .i64 y4], .int .i64 ho, .int .i64 now] := by simp only [List.map_toArray, List.map_cons, List.map_nil, Act.eval, e89, e91, e92, e93]
            refine ⟨94, rfl, op_call rfl (run_callL _ _ _ 45 _ _ _ rfl rfl hv9 (enters_of Try.func45 (by kernel_rfl) rfl)) ?_⟩
            refine (c_Tou_v HV.out a89 n c89 _ HL.out hn o89).mono ?_
            rintro e w5 ⟨a5, c5, rfl, o5, g5⟩
            exact ⟨_, rfl, _, rfl, ⟨a5, c5, rfl, row_wider o5 hb.size⟩, grown_below g5⟩
          · refine opS_any (d := 87) rfl rfl (by kernel_rfl) ?_
            intro fr9 wq hf hd hb
            obtain ⟨a94, c94, e94, o94⟩ : ∃ (a2 : Option Addr) (c2 : Nat), fr9.tmps.getD 94 undef = .tuple #[.agg #[.int .i64 v1, .int .i64 v2, .slice a2 v3.length c2], .bool vb] ∧ wq.ownsRow w13.heap.size 69 7 (.slice a2 v3.length c2) v3.length (eCells v3) := hd 94 (by kernel_rfl)
            exact ⟨87, rfl, wp_val2 rfl ((run_mv _ _ _ (.tmp 94) _ e94).1 rfl) ⟨_, rfl, ⟨a94, c94, rfl, o94⟩, Below.refl _ _⟩⟩
          · refine opS_any (d := 95) rfl rfl (by kernel_rfl) ?_
            intro fr9 wq hf hd hb
            obtain ⟨a87, c87, e87, o87⟩ : ∃ (a2 : Option Addr) (c2 : Nat), fr9.tmps.getD 87 undef = .tuple #[.agg #[.int .i64 v1, .int .i64 v2, .slice a2 v3.length c2], .bool vb] ∧ wq.ownsRow w13.heap.size 69 7 (.slice a2 v3.length c2) v3.length (eCells v3) := hd 87 (by kernel_rfl)
            exact ⟨95, rfl, wp_val2 rfl (run_ext _ _ _ (.tmp 87) 0 _ _ rfl e87 rfl) ⟨_, rfl, ⟨a87, c87, rfl, o87⟩, Below.refl _ _⟩⟩
          · refine opS_any (d := 96) rfl rfl (by kernel_rfl) ?_
            intro fr9 wq hf hd hb
            obtain ⟨a87, c87, e87, o87⟩ : ∃ (a2 : Option Addr) (c2 : Nat), fr9.tmps.getD 87 undef = .tuple #[.agg #[.int .i64 v1, .int .i64 v2, .slice a2 v3.length c2], .bool vb] ∧ wq.ownsRow w13.heap.size 69 7 (.slice a2 v3.length c2) v3.length (eCells v3) := hd 87 (by kernel_rfl)
            exact ⟨96, rfl, wp_val2 rfl (run_ext _ _ _ (.tmp 87) 1 _ _ rfl e87 rfl) ⟨_, rfl, rfl, Below.refl _ _⟩⟩
          · exact opS_alloc (d := 18) rfl rfl (fun ρ wq => run_alTi _ ρ wq rfl) _
          · exact opS_store 18 95 30 rfl rfl rfl rfl (by kernel_rfl) (by kernel_rfl) rfl (fun ρ wq g cs u hx hy hb hc hu => st_table rfl g cs u hx hy hb hc hu) _
        · clear hfr hdi
          intro fq wq hf hbq
          have e88 : fq 88 = .agg #[.int .i64 N, .int .i64 R, .slice a n cap] := hf 88 (by decide)
          obtain ⟨a89, c89, e89, o89⟩ : ∃ (a2 : Option Addr) (c2 : Nat), fq 89 = .agg #[.int .i64 N, .int .i64 R, .slice a2 n c2] ∧ wq.ownsRow w13.heap.size 69 7 (.slice a2 n c2) n (eCells es) := hf 89 (by decide)
          clear o89
          have e90 : fq 90 = .agg #[.int .i64 y0, .int .i64 y1, .int .i64 y2, .int .i64 y3, .int .i64 y4] := hf 90 (by decide)
          have e91 : fq 91 = .agg #[.int .i64 y0, .int .i64 y1, .int .i64 y2, .int .i64 y3, .int .i64 y4] := hf 91 (by decide)
          have e92 : fq 92 = .int .i64 ho := hf 92 (by decide)
          have e93 : fq 93 = .int .i64 now := hf 93 (by decide)
          obtain ⟨a94, c94, e94, o94⟩ : ∃ (a2 : Option Addr) (c2 : Nat), fq 94 = .tuple #[.agg #[.int .i64 v1, .int .i64 v2, .slice a2 v3.length c2], .bool vb] ∧ wq.ownsRow w13.heap.size 69 7 (.slice a2 v3.length c2) v3.length (eCells v3) := hf 94 (by decide)
          clear o94
          obtain ⟨a87, c87, e87, o87⟩ : ∃ (a2 : Option Addr) (c2 : Nat), fq 87 = .tuple #[.agg #[.int .i64 v1, .int .i64 v2, .slice a2 v3.length c2], .bool vb] ∧ wq.ownsRow w13.heap.size 69 7 (.slice a2 v3.length c2) v3.length (eCells v3) := hf 87 (by decide)
          clear o87
          obtain ⟨a95, c95, e95, o95⟩ : ∃ (a2 : Option Addr) (c2 : Nat), fq 95 = .agg #[.int .i64 v1, .int .i64 v2, .slice a2 v3.length c2] ∧ wq.ownsRow w13.heap.size 69 7 (.slice a2 v3.length c2) v3.length (eCells v3) := hf 95 (by decide)
          clear o95
          have e96 : fq 96 = .bool vb := hf 96 (by decide)
          obtain ⟨g18, a18, c18, e18, l18, b18, o18⟩ : ∃ (g : Nat) (a2 : Option Addr) (c2 : Nat), fq 18 = .pointer (some ⟨g, 0, none⟩) ∧ w13.heap.size ≤ g ∧ Box wq g 30 (Value.cells (.agg #[.int .i64 v1, .int .i64 v2, .slice a2 v3.length c2])).toList ∧ wq.ownsRow w13.heap.size 69 7 (.slice a2 v3.length c2) v3.length (eCells v3) := by
            obtain ⟨g, u, h1, h2, h3, a2, c2, rfl, h4⟩ := hf 18 (by decide)
            exact ⟨g, a2, c2, h1, h2, h3, h4⟩
          simp only [List.drop_succ_cons, List.drop_zero, putL, Act.put, List.setIfInBounds_toArray, List.set_cons_succ, List.set_cons_zero, e88, e89, e90, e91, e92, e93, e94, e87, e95, e96, e18]
          clear hf e88 e89 e90 e91 e92 e93 e94 e87 e95 e96 e18
          obtain ⟨w14, rfl⟩ : ∃ W, W = wq := ⟨_, rfl⟩
          have z14 := hbq.size
          have D14 := Lib.hid (Below.step D13.out hbq (by omega))
          have AW14 := Lib.hid (Below.step AW13.out hbq (by omega))
          have BP14 := Lib.hid (BP13.out.keep hbq)
          have BQ14 := Lib.hid (BQ13.out.keep hbq)
          have BY14 := Lib.hid (BY13.out.keep hbq)
          have BX014 := Lib.hid (BX013.out.keep hbq)
          have BG14 := Lib.hid (BG13.out.keep hbq)
          have OY14 := Lib.hid (row_below OY13.out hbq)
          have OX014 := Lib.hid (row_below OX013.out hbq)
          have OG14 := Lib.hid (row_below OG13.out hbq)
          have BU14 : Hid (Box w14 g18 30 [.int .i64 v1, .int .i64 v2, .slice a18 v3.length c18]) := Lib.hid b18
          have hgl18 := BU14.out.lt
          clear b18
          have OU14 : Hid (w14.ownsRow w13.heap.size 69 7 (.slice a18 v3.length c18) v3.length (eCells v3)) := Lib.hid o18
          have LU := Lib.hid (fun k hk => OU14.out.lt k hk)
          clear o18
          clear hbq
          clear AW13 BP13 BQ13 BY13 BX013 BG13 OY13 OX013 OG13
          obtain ⟨xU0, xU1, xU2, xUf⟩ := BU14.out.three
          obtain ⟨xY0, xY1, xY2, xYf⟩ := BY14.out.three
          go_wp2_with fail
          refine (c_eqTable v1 v2 _ _ v3.length _ _ v3 _ rfl HN3.out (EntRow.ents OU14.out) (EntRow.ents OY14.out)).mono ?_; rintro e w15 ⟨rfl, g15⟩
          clear xU0 xU1 xU2 xUf xY0 xY1 xY2 xYf
          have z15 := g15.size
          have D15 := Lib.hid (Below.step D14.out g15 (by omega))
          have AW15 := Lib.hid (Below.step AW14.out g15 (by omega))
          have BP15 := Lib.hid (BP14.out.keep g15)
          have BQ15 := Lib.hid (BQ14.out.keep g15)
          have BY15 := Lib.hid (BY14.out.keep g15)
          have BX015 := Lib.hid (BX014.out.keep g15)
          have BG15 := Lib.hid (BG14.out.keep g15)
          have BU15 := Lib.hid (BU14.out.keep g15)
          have OY15 := Lib.hid (row_below OY14.out g15)
          have OX015 := Lib.hid (row_below OX014.out g15)
          have OG15 := Lib.hid (row_below OG14.out g15)
          have OU15 := Lib.hid (row_below OU14.out g15)
          clear g15
          clear AW14 BP14 BQ14 BY14 BX014 BG14 BU14 OY14 OX014 OG14 OU14
          obtain ⟨xG0, xG1, xG2, xGf⟩ := BG15.out.three
          go_wp2_with fail
          refine (c_heldTable v1 v2 _ v3.length _ 1 _ HN3.out (by omega) (by omega) (row_vals OG15.out)).mono ?_; rintro e w16 ⟨rfl, g16⟩
          clear xG0 xG1 xG2 xGf
          have z16 := g16.size
          have D16 := Lib.hid (Below.step D15.out g16 (by omega))
          have AW16 := Lib.hid (Below.step AW15.out g16 (by omega))
          have BP16 := Lib.hid (BP15.out.keep g16)
          have BQ16 := Lib.hid (BQ15.out.keep g16)
          have BY16 := Lib.hid (BY15.out.keep g16)
          have BX016 := Lib.hid (BX015.out.keep g16)
          have BG16 := Lib.hid (BG15.out.keep g16)
          have BU16 := Lib.hid (BU15.out.keep g16)
          have OY16 := Lib.hid (row_below OY15.out g16)
          have OX016 := Lib.hid (row_below OX015.out g16)
          have OG16 := Lib.hid (row_below OG15.out g16)
          have OU16 := Lib.hid (row_below OU15.out g16)
          clear g16
          clear AW15 BP15 BQ15 BY15 BX015 BG15 BU15 OY15 OX015 OG15 OU15
          go_wp2_with fail
          go_ret
          exact ⟨rfl, D16.out⟩
end Go.Proofs.Ytdkdfehlmphikaa
