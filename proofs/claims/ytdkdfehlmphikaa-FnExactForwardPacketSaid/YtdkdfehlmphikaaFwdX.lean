/- The walk of the exact law of ForwardPacket: true for all arguments. No condition. The text is written by a program (wip/ex_fwd.py). -/
import Derived.Test.YtdkdfehlmphikaaFws
import Derived.Test.YtdkdfehlmphikaaPfw
import Derived.Test.YtdkdfehlmphikaaHostM
import Derived.Test.YtdkdfehlmphikaaIsH
import Derived.Test.YtdkdfehlmphikaaTabL
import Derived.Test.YtdkdfehlmphikaaOpS
namespace Go.Proofs.Ytdkdfehlmphikaa
open Go.RowKit
theorem s_Fwd_v {hs : List H3} {N R : Int} {es : List E7} {f : F5} {now : Int} {v1 v2 : Int} {v3 : List E7} {vh : Int} (hv : fwdT hs (N, R, es) f now = ((v1, v2, v3), vh)) (p : Option Addr) (pn pc : Nat) (a : Option Addr) (n cap : Nat) (w : World) (hps : hs.length = pn) (hpn : pn ≤ 1048576) {B' : Nat} (oh : w.ownsRow B' 97 3 (.slice p pn pc) pn (hcells hs)) (hxs : es.length = n) (hn : n ≤ 1048576) {B : Nat} (o : w.ownsRow B 69 7 (.slice a n cap) n (eCells es)) :
    Calls Try.prog 23 #[.slice p pn pc, .agg #[.int .i64 N, .int .i64 R, .slice a n cap], fvv f, .int .i64 now] w (RetFw w ((v1, v2, v3), vh)) := by
  have := s_ForwardPacket p pn pc hs N R a n cap es f now w hps hpn (row_vals oh) hxs hn (EntRow.ents o) (own_none o)
  rwa [hv] at this
theorem c_Fwd_v {hs : List H3} {N R : Int} {es : List E7} {f : F5} {now : Int} {v1 v2 : Int} {v3 : List E7} {vh : Int} (hv : fwdT hs (N, R, es) f now = ((v1, v2, v3), vh)) (p : Option Addr) (pn pc : Nat) (a : Option Addr) (n cap : Nat) (w : World) (hps : hs.length = pn) (hpn : pn ≤ 1048576) {B' : Nat} (oh : w.ownsRow B' 97 3 (.slice p pn pc) pn (hcells hs)) (hxs : es.length = n) (hn : n ≤ 1048576) {B : Nat} (o : w.ownsRow B 69 7 (.slice a n cap) n (eCells es)) :
    Calls Try.prog 27 #[.slice p pn pc, .agg #[.int .i64 N, .int .i64 R, .slice a n cap], fvv f, .int .i64 now] w (RetFw w ((v1, v2, v3), vh)) := by
  have := c_ForwardPacket p pn pc hs N R a n cap es f now w hps hpn (row_vals oh) hxs hn (EntRow.ents o) (own_none o)
  rwa [hv] at this
set_option maxHeartbeats 8000000 in
set_option maxRecDepth 100000 in
theorem walkExactForwardPacket (p : Option Addr) (pn pc : Nat) (hs : List H3) (N R : Int) (a : Option Addr) (n cap : Nat) (es : List E7) (y0 y1 y2 y3 y4 : Int) (now : Int) (w : World) (wp : IsHosts w p pn pc hs) (_ : (Lit.int .i64 N).wf = true) (_ : (Lit.int .i64 R).wf = true) (w0 : IsEnts w a n cap es)
    (_ : (Lit.int .i64 y0).wf = true) (_ : (Lit.int .i64 y1).wf = true) (_ : (Lit.int .i64 y2).wf = true) (_ : (Lit.int .i64 y3).wf = true) (_ : (Lit.int .i64 y4).wf = true) (_ : (Lit.int .i64 now).wf = true) :
    Calls Try.prog 4 #[.slice p pn pc, .agg #[.int .i64 N, .int .i64 R, .slice a n cap], .agg #[.int .i64 y0, .int .i64 y1, .int .i64 y2, .int .i64 y3, .int .i64 y4], .int .i64 now] w fun e w' => e = .returned (.bool true) ∧ Below w.heap.size w w' := by
  obtain ⟨hL, hc, hm, _, hI⟩ := w0
  obtain ⟨hPL, hpc, hpm, hPH⟩ := wp
  by_cases hbig : (1048576 : Int) < pn
  · have hm : pn ≤ maxLen := Nat.le_trans hpc hpm
    go_enter Try.func4, Try.ntmps4
    go_wp2_with fail
    refine (c_szHostS_no p pn pc 1048576 _ hm (by omega) (by omega) hbig).mono ?_; rintro e w' ⟨rfl, rfl⟩
    go_wp2_with fail
    go_ret
    exact ⟨rfl, ((Below.refl _ _).alloc (Nat.le_refl _) _).alloc (by simp) _⟩
  have hpn : pn ≤ 1048576 := by omega
  have hpn0 : (pn : Int) ≤ 1048576 := by omega
  by_cases hbig2 : 1048576 - (pn : Int) < n
  · have hm : n ≤ maxLen := Nat.le_trans hc hm
    have hsp : ¬ (1048576 - (pn : Int) < 0) := by omega
    go_enter Try.func4, Try.ntmps4
    go_wp2_with fail
    refine (c_szHostS p pn pc 1048576 _ (by omega) hpn0).mono ?_; rintro e w' ⟨rfl, rfl⟩
    go_wp2_with fail
    refine (c_szTable_no N R a n cap (1048576 - (pn : Int)) _ hm (by omega) (by omega) hbig2).mono ?_; rintro e w1 ⟨rfl, b1⟩
    go_wp2_with fail
    go_ret
    exact ⟨rfl, (((Below.refl _ _).alloc (Nat.le_refl _) _).alloc (by simp) _).trans (b1.mono (by simp; omega))⟩
  have hn0 : (n : Int) ≤ 1048576 - (pn : Int) := by omega
  have hn : n ≤ 1048576 := by omega
  have HL := Lib.hid hL
  have HP := Lib.hid hPL
  clear hbig hbig2 hL hPL hc hm hpc hpm
  obtain ⟨⟨⟨v1, v2, v3⟩, vh⟩, hv⟩ : ∃ v, fwdT hs (N, R, es) (y0, y1, y2, y3, y4) now = v := ⟨_, rfl⟩
  have HN3 : Hid (v3.length ≤ 1048576) := Lib.hid (by
    have := fwd_len (hs := hs) (t := (N, R, es)) (f := (y0, y1, y2, y3, y4)) (now := now)
    rw [hv] at this
    exact Nat.le_trans this (by omega))
  have hn3 := HN3.out
  have HV := Lib.hid hv
  clear hv
  have D0 := Lib.hid (Below.refl w.heap.size w)
  go_enter Try.func4, Try.ntmps4
  have AW0 := Lib.hid (Below.refl w.heap.size w)
  have RI := Lib.hid hI
  have RH := Lib.hid hPH
  clear hI hPH
  obtain ⟨w1, hw1, hb1, hz1, hx1⟩ : ∃ W, W = w.alloc (.cells #[.int .i64 N, .int .i64 R, .slice a n cap] 45) ∧ Below w.heap.size w W ∧ W.heap.size = w.heap.size + 1 ∧ Box W w.heap.size 45 [.int .i64 N, .int .i64 R, .slice a n cap] := head1 w 45 _
  have q1 := hz1
  have HW1 := Lib.hid hw1
  have z1 : w.heap.size + 1 ≤ w1.heap.size := by omega
  have D1 := Lib.hid (Below.step D0.out hb1 (by omega))
  have AW1 := Lib.hid (Below.step AW0.out hb1 (by omega))
  have BP1 := Lib.hid hx1
  clear hw1 hb1 hz1 hx1
  obtain ⟨w2, hw2, hb2, hz2, hx2⟩ : ∃ W, W = w1.alloc (.cells #[.int .i64 y0, .int .i64 y1, .int .i64 y2, .int .i64 y3, .int .i64 y4] 46) ∧ Below w1.heap.size w1 W ∧ W.heap.size = w1.heap.size + 1 ∧ Box W w1.heap.size 46 [.int .i64 y0, .int .i64 y1, .int .i64 y2, .int .i64 y3, .int .i64 y4] := head1 w1 46 _
  rw [q1] at hx2
  have q2 := hz2
  have HW2 := Lib.hid hw2
  have z2 : w1.heap.size + 1 ≤ w2.heap.size := by omega
  have D2 := Lib.hid (Below.step D1.out hb2 (by omega))
  have AW2 := Lib.hid (Below.step AW1.out hb2 (by omega))
  have BP2 := Lib.hid (BP1.out.keep hb2)
  have BQ2 := Lib.hid hx2
  clear hw2 hb2 hz2 hx2
  go_wp2_with fail
  rw [← HW1.out]
  rw [← HW2.out]
  refine (c_szHostS p pn pc 1048576 _ (by omega) hpn0).mono ?_; rintro e w' ⟨rfl, rfl⟩
  have hsp : ¬ (1048576 - (pn : Int) < 0) := by omega
  obtain ⟨xP0, xP1, xP2, xPf⟩ := BP2.out.three
  go_wp2_with fail
  refine (c_szTable N R a n cap (1048576 - (pn : Int)) _ (by omega) hn0).mono ?_; rintro e w3 ⟨rfl, g3⟩
  clear xP0 xP1 xP2 xPf
  have z3 := g3.size
  have D3 := Lib.hid (Below.step D2.out g3 (by omega))
  have AW3 := Lib.hid (Below.step AW2.out g3 (by omega))
  have BP3 := Lib.hid (BP2.out.keep g3)
  have BQ3 := Lib.hid (BQ2.out.keep g3)
  clear g3
  clear AW2 BP2 BQ2
  have hsz : ¬ (1048576 - (pn : Int) - (n : Int) < 0) := by omega
  go_upto_region 8 with fail
  obtain ⟨hfr, hdi⟩ := bs_one (x := ⟨10, 30, [.int .i64 0, .int .i64 0, .slice none 0 0], .row w3.heap.size 69 7 v3.length (eCells v3) (fun s => .agg #[.int .i64 v1, .int .i64 v2, s])⟩) (by kernel_rfl)
  refine region_anyS _ 13 132 [32, 33, 34, 35, 36, 37, 38, 39, 31, 40, 41, 10] [⟨10, 30, [.int .i64 0, .int .i64 0, .slice none 0 0], .row w3.heap.size 69 7 v3.length (eCells v3) (fun s => .agg #[.int .i64 v1, .int .i64 v2, s])⟩] [(32, .val (.slice p pn pc)), (33, .row w3.heap.size 97 3 pn (hcells hs) (fun s => s)), (34, .val (.agg #[.int .i64 N, .int .i64 R, .slice a n cap])), (35, .row w3.heap.size 69 7 n (eCells es) (fun s => .agg #[.int .i64 N, .int .i64 R, s])), (36, .val (.agg #[.int .i64 y0, .int .i64 y1, .int .i64 y2, .int .i64 y3, .int .i64 y4])), (37, .val (.agg #[.int .i64 y0, .int .i64 y1, .int .i64 y2, .int .i64 y3, .int .i64 y4])), (38, .val (.int .i64 now)), (39, .row w3.heap.size 69 7 v3.length (eCells v3) (fun s => .tuple #[.agg #[.int .i64 v1, .int .i64 v2, s], .int .i64 vh])), (31, .row w3.heap.size 69 7 v3.length (eCells v3) (fun s => .tuple #[.agg #[.int .i64 v1, .int .i64 v2, s], .int .i64 vh])), (40, .row w3.heap.size 69 7 v3.length (eCells v3) (fun s => .agg #[.int .i64 v1, .int .i64 v2, s])), (41, .val (.int .i64 vh))] rfl (by kernel_rfl) hfr (spAt_free (by kernel_rfl)) hdi (by kernel_rfl) ?_ ?_
  · clear hfr hdi
    refine ⟨?_, ?_, ?_, ?_, ?_, ?_, ?_, ?_, ?_, ?_, ?_, ?_, ?_, trivial⟩
    · refine opS_any (d := 32) rfl rfl (by kernel_rfl) ?_
      refine op_val (d := 32) rfl (.slice p pn pc) (fun fr9 wq hf _ hb => ⟨?_, ?_⟩) _
      rotate_left
      · exact rfl
      exact (run_mv _ _ _ (.tmp 0) _ (hf 0 (by kernel_rfl))).1 rfl
    · refine opS_any (d := 33) rfl rfl (by kernel_rfl) ?_
      intro fr9 wq hf hd hb
      have e32 : fr9.tmps.getD 32 undef = .slice p pn pc := hd 32 (by kernel_rfl)
      have hv9 : (#[Operand.tmp 32] : Array Operand).map fr9.eval = #[.slice p pn pc] := by simp only [List.map_toArray, List.map_cons, List.map_nil, Act.eval, e32]
      refine ⟨33, rfl, op_call rfl (run_callL _ _ _ 24 _ _ _ rfl rfl hv9 (enters_of Try.func24 (by kernel_rfl) rfl)) ?_⟩
      refine (c_toHostS p pn pc hs _ HP.out hpn ((RH.out.below AW3.out).below hb)).mono ?_
      rintro e w5 ⟨a5, c5, rfl, o5, g5⟩
      exact ⟨_, rfl, _, rfl, ⟨a5, c5, rfl, row_wider o5 hb.size⟩, grown_below g5⟩
    · refine opS_any (d := 34) rfl rfl (by kernel_rfl) ?_
      refine op_val (d := 34) rfl (.agg #[.int .i64 N, .int .i64 R, .slice a n cap]) (fun fr9 wq hf _ hb => ⟨?_, ?_⟩) _
      rotate_left
      · exact rfl
      exact run_ldTl _ _ _ (.tmp 5) _ _ _ _ rfl (hf 5 (by kernel_rfl)) (BP3.out.keep hb)
    · refine opS_any (d := 35) rfl rfl (by kernel_rfl) ?_
      intro fr9 wq hf hd hb
      have e34 : fr9.tmps.getD 34 undef = .agg #[.int .i64 N, .int .i64 R, .slice a n cap] := hd 34 (by kernel_rfl)
      have hv9 : (#[Operand.tmp 34] : Array Operand).map fr9.eval = #[.agg #[.int .i64 N, .int .i64 R, .slice a n cap]] := by simp only [List.map_toArray, List.map_cons, List.map_nil, Act.eval, e34]
      refine ⟨35, rfl, op_call rfl (run_callL _ _ _ 25 _ _ _ rfl rfl hv9 (enters_of Try.func25 (by kernel_rfl) rfl)) ?_⟩
      refine (c_toTable N R a n cap es _ HL.out hn ((RI.out.below AW3.out).below hb)).mono ?_
      rintro e w5 ⟨a5, c5, rfl, o5, g5⟩
      exact ⟨_, rfl, _, rfl, ⟨a5, c5, rfl, row_wider o5 hb.size⟩, grown_below g5⟩
    · refine opS_any (d := 36) rfl rfl (by kernel_rfl) ?_
      refine op_val (d := 36) rfl (.agg #[.int .i64 y0, .int .i64 y1, .int .i64 y2, .int .i64 y3, .int .i64 y4]) (fun fr9 wq hf _ hb => ⟨?_, ?_⟩) _
      rotate_left
      · exact rfl
      exact run_ldFl _ _ _ (.tmp 6) _ _ _ _ _ _ rfl (hf 6 (by kernel_rfl)) (BQ3.out.keep hb)
    · refine opS_any (d := 37) rfl rfl (by kernel_rfl) ?_
      intro fr9 wq hf hd hb
      have e36 : fr9.tmps.getD 36 undef = .agg #[.int .i64 y0, .int .i64 y1, .int .i64 y2, .int .i64 y3, .int .i64 y4] := hd 36 (by kernel_rfl)
      have hv9 : (#[Operand.tmp 36] : Array Operand).map fr9.eval = #[.agg #[.int .i64 y0, .int .i64 y1, .int .i64 y2, .int .i64 y3, .int .i64 y4]] := by simp only [List.map_toArray, List.map_cons, List.map_nil, Act.eval, e36]
      refine ⟨37, rfl, op_call rfl (run_callL _ _ _ 26 _ _ _ rfl rfl hv9 (enters_of Try.func26 (by kernel_rfl) rfl)) ?_⟩
      refine (c_toFlow y0 y1 y2 y3 y4 _).mono ?_
      rintro e w5 ⟨rfl, g5⟩
      exact ⟨_, rfl, _, rfl, rfl, g5⟩
    · refine opS_any (d := 38) rfl rfl (by kernel_rfl) ?_
      refine op_val (d := 38) rfl (.int .i64 now) (fun fr9 wq hf _ hb => ⟨?_, ?_⟩) _
      rotate_left
      · exact rfl
      exact (run_mv _ _ _ (.tmp 3) _ (hf 3 (by kernel_rfl))).1 rfl
    · refine opS_any (d := 39) rfl rfl (by kernel_rfl) ?_
      intro fr9 wq hf hd hb
      obtain ⟨a33, c33, e33, o33⟩ : ∃ (a2 : Option Addr) (c2 : Nat), fr9.tmps.getD 33 undef = .slice a2 pn c2 ∧ wq.ownsRow w3.heap.size 97 3 (.slice a2 pn c2) pn (hcells hs) := hd 33 (by kernel_rfl)
      obtain ⟨a35, c35, e35, o35⟩ : ∃ (a2 : Option Addr) (c2 : Nat), fr9.tmps.getD 35 undef = .agg #[.int .i64 N, .int .i64 R, .slice a2 n c2] ∧ wq.ownsRow w3.heap.size 69 7 (.slice a2 n c2) n (eCells es) := hd 35 (by kernel_rfl)
      have e37 : fr9.tmps.getD 37 undef = .agg #[.int .i64 y0, .int .i64 y1, .int .i64 y2, .int .i64 y3, .int .i64 y4] := hd 37 (by kernel_rfl)
      have e38 : fr9.tmps.getD 38 undef = .int .i64 now := hd 38 (by kernel_rfl)
      have hv9 : (#[Operand.tmp 33, Operand.tmp 35, Operand.tmp 37, Operand.tmp 38] : Array Operand).map fr9.eval = #[.slice a33 pn c33, .agg #[.int .i64 N, .int .i64 R, .slice a35 n c35], .agg #[.int .i64 y0, .int .i64 y1, .int .i64 y2, .int .i64 y3, .int .i64 y4], .int .i64 now] := by simp only [List.map_toArray, List.map_cons, List.map_nil, Act.eval, e33, e35, e37, e38]
      refine ⟨39, rfl, op_call rfl (run_callL _ _ _ 23 _ _ _ rfl rfl hv9 (enters_of Try.func23 (by kernel_rfl) rfl)) ?_⟩
      refine (s_Fwd_v HV.out a33 pn c33 a35 n c35 _ HP.out hpn o33 HL.out hn o35).mono ?_
      rintro e w5 ⟨a5, c5, rfl, o5, g5⟩
      exact ⟨_, rfl, _, rfl, ⟨a5, c5, rfl, row_wider o5 hb.size⟩, grown_below g5⟩
    · refine opS_any (d := 31) rfl rfl (by kernel_rfl) ?_
      intro fr9 wq hf hd hb
      obtain ⟨a39, c39, e39, o39⟩ : ∃ (a2 : Option Addr) (c2 : Nat), fr9.tmps.getD 39 undef = .tuple #[.agg #[.int .i64 v1, .int .i64 v2, .slice a2 v3.length c2], .int .i64 vh] ∧ wq.ownsRow w3.heap.size 69 7 (.slice a2 v3.length c2) v3.length (eCells v3) := hd 39 (by kernel_rfl)
      exact ⟨31, rfl, wp_val2 rfl ((run_mv _ _ _ (.tmp 39) _ e39).1 rfl) ⟨_, rfl, ⟨a39, c39, rfl, o39⟩, Below.refl _ _⟩⟩
    · refine opS_any (d := 40) rfl rfl (by kernel_rfl) ?_
      intro fr9 wq hf hd hb
      obtain ⟨a31, c31, e31, o31⟩ : ∃ (a2 : Option Addr) (c2 : Nat), fr9.tmps.getD 31 undef = .tuple #[.agg #[.int .i64 v1, .int .i64 v2, .slice a2 v3.length c2], .int .i64 vh] ∧ wq.ownsRow w3.heap.size 69 7 (.slice a2 v3.length c2) v3.length (eCells v3) := hd 31 (by kernel_rfl)
      exact ⟨40, rfl, wp_val2 rfl (run_ext _ _ _ (.tmp 31) 0 _ _ rfl e31 rfl) ⟨_, rfl, ⟨a31, c31, rfl, o31⟩, Below.refl _ _⟩⟩
    · refine opS_any (d := 41) rfl rfl (by kernel_rfl) ?_
      intro fr9 wq hf hd hb
      obtain ⟨a31, c31, e31, o31⟩ : ∃ (a2 : Option Addr) (c2 : Nat), fr9.tmps.getD 31 undef = .tuple #[.agg #[.int .i64 v1, .int .i64 v2, .slice a2 v3.length c2], .int .i64 vh] ∧ wq.ownsRow w3.heap.size 69 7 (.slice a2 v3.length c2) v3.length (eCells v3) := hd 31 (by kernel_rfl)
      exact ⟨41, rfl, wp_val2 rfl (run_ext _ _ _ (.tmp 31) 1 _ _ rfl e31 rfl) ⟨_, rfl, rfl, Below.refl _ _⟩⟩
    · exact opS_alloc (d := 10) rfl rfl (fun ρ wq => run_alTi _ ρ wq rfl) _
    · exact opS_store 10 40 30 rfl rfl rfl rfl (by kernel_rfl) (by kernel_rfl) rfl (fun ρ wq g cs u hx hy hb hc hu => st_table rfl g cs u hx hy hb hc hu) _
  · clear hfr hdi
    intro fq wq hf hbq
    have e32 : fq 32 = .slice p pn pc := hf 32 (by decide)
    obtain ⟨a33, c33, e33, o33⟩ : ∃ (a2 : Option Addr) (c2 : Nat), fq 33 = .slice a2 pn c2 ∧ wq.ownsRow w3.heap.size 97 3 (.slice a2 pn c2) pn (hcells hs) := hf 33 (by decide)
    clear o33
    have e34 : fq 34 = .agg #[.int .i64 N, .int .i64 R, .slice a n cap] := hf 34 (by decide)
    obtain ⟨a35, c35, e35, o35⟩ : ∃ (a2 : Option Addr) (c2 : Nat), fq 35 = .agg #[.int .i64 N, .int .i64 R, .slice a2 n c2] ∧ wq.ownsRow w3.heap.size 69 7 (.slice a2 n c2) n (eCells es) := hf 35 (by decide)
    clear o35
    have e36 : fq 36 = .agg #[.int .i64 y0, .int .i64 y1, .int .i64 y2, .int .i64 y3, .int .i64 y4] := hf 36 (by decide)
    have e37 : fq 37 = .agg #[.int .i64 y0, .int .i64 y1, .int .i64 y2, .int .i64 y3, .int .i64 y4] := hf 37 (by decide)
    have e38 : fq 38 = .int .i64 now := hf 38 (by decide)
    obtain ⟨a39, c39, e39, o39⟩ : ∃ (a2 : Option Addr) (c2 : Nat), fq 39 = .tuple #[.agg #[.int .i64 v1, .int .i64 v2, .slice a2 v3.length c2], .int .i64 vh] ∧ wq.ownsRow w3.heap.size 69 7 (.slice a2 v3.length c2) v3.length (eCells v3) := hf 39 (by decide)
    clear o39
    obtain ⟨a31, c31, e31, o31⟩ : ∃ (a2 : Option Addr) (c2 : Nat), fq 31 = .tuple #[.agg #[.int .i64 v1, .int .i64 v2, .slice a2 v3.length c2], .int .i64 vh] ∧ wq.ownsRow w3.heap.size 69 7 (.slice a2 v3.length c2) v3.length (eCells v3) := hf 31 (by decide)
    clear o31
    obtain ⟨a40, c40, e40, o40⟩ : ∃ (a2 : Option Addr) (c2 : Nat), fq 40 = .agg #[.int .i64 v1, .int .i64 v2, .slice a2 v3.length c2] ∧ wq.ownsRow w3.heap.size 69 7 (.slice a2 v3.length c2) v3.length (eCells v3) := hf 40 (by decide)
    clear o40
    have e41 : fq 41 = .int .i64 vh := hf 41 (by decide)
    obtain ⟨g10, a10, c10, e10, l10, b10, o10⟩ : ∃ (g : Nat) (a2 : Option Addr) (c2 : Nat), fq 10 = .pointer (some ⟨g, 0, none⟩) ∧ w3.heap.size ≤ g ∧ Box wq g 30 (Value.cells (.agg #[.int .i64 v1, .int .i64 v2, .slice a2 v3.length c2])).toList ∧ wq.ownsRow w3.heap.size 69 7 (.slice a2 v3.length c2) v3.length (eCells v3) := by
      obtain ⟨g, u, h1, h2, h3, a2, c2, rfl, h4⟩ := hf 10 (by decide)
      exact ⟨g, a2, c2, h1, h2, h3, h4⟩
    simp only [List.drop_succ_cons, List.drop_zero, putL, Act.put, List.setIfInBounds_toArray, List.set_cons_succ, List.set_cons_zero, e32, e33, e34, e35, e36, e37, e38, e39, e31, e40, e41, e10]
    clear hf e32 e33 e34 e35 e36 e37 e38 e39 e31 e40 e41 e10
    obtain ⟨w4, rfl⟩ : ∃ W, W = wq := ⟨_, rfl⟩
    have z4 := hbq.size
    have D4 := Lib.hid (Below.step D3.out hbq (by omega))
    have AW4 := Lib.hid (Below.step AW3.out hbq (by omega))
    have BP4 := Lib.hid (BP3.out.keep hbq)
    have BQ4 := Lib.hid (BQ3.out.keep hbq)
    have BY4 : Hid (Box w4 g10 30 [.int .i64 v1, .int .i64 v2, .slice a10 v3.length c10]) := Lib.hid b10
    have hgl10 := BY4.out.lt
    clear b10
    have OY4 : Hid (w4.ownsRow w3.heap.size 69 7 (.slice a10 v3.length c10) v3.length (eCells v3)) := Lib.hid o10
    have LY := Lib.hid (fun k hk => OY4.out.lt k hk)
    clear o10
    clear hbq
    clear AW3 BP3 BQ3
    go_wp2_with fail
    refine (c_toHostS p pn pc hs _ HP.out hpn (RH.out.below AW4.out)).mono ?_; rintro e w5 ⟨a5, c5, rfl, o5, g5⟩
    have z5 := (grown_below g5).size
    have D5 := Lib.hid (Below.step D4.out (grown_below g5) (by omega))
    have AW5 := Lib.hid (Below.step AW4.out (grown_below g5) (by omega))
    have BP5 := Lib.hid (BP4.out.keep (grown_below g5))
    have BQ5 := Lib.hid (BQ4.out.keep (grown_below g5))
    have BY5 := Lib.hid (BY4.out.keep (grown_below g5))
    have OY5 := Lib.hid (row_below OY4.out (grown_below g5))
    have OXH5 := Lib.hid o5
    have LXH := Lib.hid (fun k hk => o5.lt k hk)
    clear g5 o5
    clear AW4 BP4 BQ4 BY4 OY4
    obtain ⟨xP0, xP1, xP2, xPf⟩ := BP5.out.three
    go_wp2_with fail
    refine (c_toTable N R a n cap es _ HL.out hn (RI.out.below AW5.out)).mono ?_; rintro e w6 ⟨a6, c6, rfl, o6, g6⟩
    clear xP0 xP1 xP2 xPf
    have z6 := (grown_below g6).size
    have D6 := Lib.hid (Below.step D5.out (grown_below g6) (by omega))
    have AW6 := Lib.hid (Below.step AW5.out (grown_below g6) (by omega))
    have BP6 := Lib.hid (BP5.out.keep (grown_below g6))
    have BQ6 := Lib.hid (BQ5.out.keep (grown_below g6))
    have BY6 := Lib.hid (BY5.out.keep (grown_below g6))
    have OY6 := Lib.hid (row_below OY5.out (grown_below g6))
    have OXH6 := Lib.hid (row_below OXH5.out (grown_below g6))
    have OX06 := Lib.hid o6
    have LX0 := Lib.hid (fun k hk => o6.lt k hk)
    clear g6 o6
    clear AW5 BP5 BQ5 BY5 OY5 OXH5
    obtain ⟨w7, hw7, hb7, hz7, hx7⟩ : ∃ W, W = w6.alloc (.cells #[.int .i64 N, .int .i64 R, .slice a6 n c6] 30) ∧ Below w6.heap.size w6 W ∧ W.heap.size = w6.heap.size + 1 ∧ Box W w6.heap.size 30 [.int .i64 N, .int .i64 R, .slice a6 n c6] := head1 w6 30 _
    have q7 := hz7
    have HW7 := Lib.hid hw7
    have z7 : w6.heap.size + 1 ≤ w7.heap.size := by omega
    have D7 := Lib.hid (Below.step D6.out hb7 (by omega))
    have AW7 := Lib.hid (Below.step AW6.out hb7 (by omega))
    have BP7 := Lib.hid (BP6.out.keep hb7)
    have BQ7 := Lib.hid (BQ6.out.keep hb7)
    have BY7 := Lib.hid (BY6.out.keep hb7)
    have OY7 := Lib.hid (row_below OY6.out hb7)
    have OXH7 := Lib.hid (row_below OXH6.out hb7)
    have OX07 := Lib.hid (row_below OX06.out hb7)
    have BX07 := Lib.hid hx7
    clear hw7 hb7 hz7 hx7
    go_upto_region 11 with fail
    rw [← HW7.out]
    obtain ⟨hfr, hdi⟩ := bs_one (x := ⟨14, 30, [.int .i64 0, .int .i64 0, .slice none 0 0], .row w7.heap.size 69 7 v3.length (eCells v3) (fun s => .agg #[.int .i64 v1, .int .i64 v2, s])⟩) (by kernel_rfl)
    refine region_anyS _ 11 132 [47, 48, 49, 50, 51, 52, 46, 53, 54, 14] [⟨14, 30, [.int .i64 0, .int .i64 0, .slice none 0 0], .row w7.heap.size 69 7 v3.length (eCells v3) (fun s => .agg #[.int .i64 v1, .int .i64 v2, s])⟩] [(47, .val (.slice a5 pn c5)), (48, .val (.agg #[.int .i64 N, .int .i64 R, .slice a6 n c6])), (49, .val (.agg #[.int .i64 y0, .int .i64 y1, .int .i64 y2, .int .i64 y3, .int .i64 y4])), (50, .val (.agg #[.int .i64 y0, .int .i64 y1, .int .i64 y2, .int .i64 y3, .int .i64 y4])), (51, .val (.int .i64 now)), (52, .row w7.heap.size 69 7 v3.length (eCells v3) (fun s => .tuple #[.agg #[.int .i64 v1, .int .i64 v2, s], .int .i64 vh])), (46, .row w7.heap.size 69 7 v3.length (eCells v3) (fun s => .tuple #[.agg #[.int .i64 v1, .int .i64 v2, s], .int .i64 vh])), (53, .row w7.heap.size 69 7 v3.length (eCells v3) (fun s => .agg #[.int .i64 v1, .int .i64 v2, s])), (54, .val (.int .i64 vh))] rfl (by kernel_rfl) hfr (spAt_free (by kernel_rfl)) hdi (by kernel_rfl) ?_ ?_
    · clear hfr hdi
      refine ⟨?_, ?_, ?_, ?_, ?_, ?_, ?_, ?_, ?_, ?_, ?_, trivial⟩
      · refine opS_any (d := 47) rfl rfl (by kernel_rfl) ?_
        refine op_val (d := 47) rfl (.slice a5 pn c5) (fun fr9 wq hf _ hb => ⟨?_, ?_⟩) _
        rotate_left
        · exact rfl
        exact (run_mv _ _ _ (.tmp 12) _ (hf 12 (by kernel_rfl))).1 rfl
      · refine opS_any (d := 48) rfl rfl (by kernel_rfl) ?_
        refine op_val (d := 48) rfl (.agg #[.int .i64 N, .int .i64 R, .slice a6 n c6]) (fun fr9 wq hf _ hb => ⟨?_, ?_⟩) _
        rotate_left
        · exact rfl
        exact run_ldTi _ _ _ (.tmp 13) _ _ _ _ rfl (hf 13 (by kernel_rfl)) (BX07.out.keep hb)
      · refine opS_any (d := 49) rfl rfl (by kernel_rfl) ?_
        refine op_val (d := 49) rfl (.agg #[.int .i64 y0, .int .i64 y1, .int .i64 y2, .int .i64 y3, .int .i64 y4]) (fun fr9 wq hf _ hb => ⟨?_, ?_⟩) _
        rotate_left
        · exact rfl
        exact run_ldFl _ _ _ (.tmp 6) _ _ _ _ _ _ rfl (hf 6 (by kernel_rfl)) (BQ7.out.keep hb)
      · refine opS_any (d := 50) rfl rfl (by kernel_rfl) ?_
        intro fr9 wq hf hd hb
        have e49 : fr9.tmps.getD 49 undef = .agg #[.int .i64 y0, .int .i64 y1, .int .i64 y2, .int .i64 y3, .int .i64 y4] := hd 49 (by kernel_rfl)
        have hv9 : (#[Operand.tmp 49] : Array Operand).map fr9.eval = #[.agg #[.int .i64 y0, .int .i64 y1, .int .i64 y2, .int .i64 y3, .int .i64 y4]] := by simp only [List.map_toArray, List.map_cons, List.map_nil, Act.eval, e49]
        refine ⟨50, rfl, op_call rfl (run_callL _ _ _ 26 _ _ _ rfl rfl hv9 (enters_of Try.func26 (by kernel_rfl) rfl)) ?_⟩
        refine (c_toFlow y0 y1 y2 y3 y4 _).mono ?_
        rintro e w5 ⟨rfl, g5⟩
        exact ⟨_, rfl, _, rfl, rfl, g5⟩
      · refine opS_any (d := 51) rfl rfl (by kernel_rfl) ?_
        refine op_val (d := 51) rfl (.int .i64 now) (fun fr9 wq hf _ hb => ⟨?_, ?_⟩) _
        rotate_left
        · exact rfl
        exact (run_mv _ _ _ (.tmp 3) _ (hf 3 (by kernel_rfl))).1 rfl
      · refine opS_any (d := 52) rfl rfl (by kernel_rfl) ?_
        intro fr9 wq hf hd hb
        have e47 : fr9.tmps.getD 47 undef = .slice a5 pn c5 := hd 47 (by kernel_rfl)
        have e48 : fr9.tmps.getD 48 undef = .agg #[.int .i64 N, .int .i64 R, .slice a6 n c6] := hd 48 (by kernel_rfl)
        have e50 : fr9.tmps.getD 50 undef = .agg #[.int .i64 y0, .int .i64 y1, .int .i64 y2, .int .i64 y3, .int .i64 y4] := hd 50 (by kernel_rfl)
        have e51 : fr9.tmps.getD 51 undef = .int .i64 now := hd 51 (by kernel_rfl)
        have hv9 : (#[Operand.tmp 47, Operand.tmp 48, Operand.tmp 50, Operand.tmp 51] : Array Operand).map fr9.eval = #[.slice a5 pn c5, .agg #[.int .i64 N, .int .i64 R, .slice a6 n c6], .agg #[.int .i64 y0, .int .i64 y1, .int .i64 y2, .int .i64 y3, .int .i64 y4], .int .i64 now] := by simp only [List.map_toArray, List.map_cons, List.map_nil, Act.eval, e47, e48, e50, e51]
        refine ⟨52, rfl, op_call rfl (run_callL _ _ _ 27 _ _ _ rfl rfl hv9 (enters_of Try.func27 (by kernel_rfl) rfl)) ?_⟩
        refine (c_Fwd_v HV.out a5 pn c5 a6 n c6 _ HP.out hpn (row_below OXH7.out hb) HL.out hn (row_below OX07.out hb)).mono ?_
        rintro e w5 ⟨a5, c5, rfl, o5, g5⟩
        exact ⟨_, rfl, _, rfl, ⟨a5, c5, rfl, row_wider o5 hb.size⟩, grown_below g5⟩
      · refine opS_any (d := 46) rfl rfl (by kernel_rfl) ?_
        intro fr9 wq hf hd hb
        obtain ⟨a52, c52, e52, o52⟩ : ∃ (a2 : Option Addr) (c2 : Nat), fr9.tmps.getD 52 undef = .tuple #[.agg #[.int .i64 v1, .int .i64 v2, .slice a2 v3.length c2], .int .i64 vh] ∧ wq.ownsRow w7.heap.size 69 7 (.slice a2 v3.length c2) v3.length (eCells v3) := hd 52 (by kernel_rfl)
        exact ⟨46, rfl, wp_val2 rfl ((run_mv _ _ _ (.tmp 52) _ e52).1 rfl) ⟨_, rfl, ⟨a52, c52, rfl, o52⟩, Below.refl _ _⟩⟩
      · refine opS_any (d := 53) rfl rfl (by kernel_rfl) ?_
        intro fr9 wq hf hd hb
        obtain ⟨a46, c46, e46, o46⟩ : ∃ (a2 : Option Addr) (c2 : Nat), fr9.tmps.getD 46 undef = .tuple #[.agg #[.int .i64 v1, .int .i64 v2, .slice a2 v3.length c2], .int .i64 vh] ∧ wq.ownsRow w7.heap.size 69 7 (.slice a2 v3.length c2) v3.length (eCells v3) := hd 46 (by kernel_rfl)
        exact ⟨53, rfl, wp_val2 rfl (run_ext _ _ _ (.tmp 46) 0 _ _ rfl e46 rfl) ⟨_, rfl, ⟨a46, c46, rfl, o46⟩, Below.refl _ _⟩⟩
      · refine opS_any (d := 54) rfl rfl (by kernel_rfl) ?_
        intro fr9 wq hf hd hb
        obtain ⟨a46, c46, e46, o46⟩ : ∃ (a2 : Option Addr) (c2 : Nat), fr9.tmps.getD 46 undef = .tuple #[.agg #[.int .i64 v1, .int .i64 v2, .slice a2 v3.length c2], .int .i64 vh] ∧ wq.ownsRow w7.heap.size 69 7 (.slice a2 v3.length c2) v3.length (eCells v3) := hd 46 (by kernel_rfl)
        exact ⟨54, rfl, wp_val2 rfl (run_ext _ _ _ (.tmp 46) 1 _ _ rfl e46 rfl) ⟨_, rfl, rfl, Below.refl _ _⟩⟩
      · exact opS_alloc (d := 14) rfl rfl (fun ρ wq => run_alTi _ ρ wq rfl) _
      · exact opS_store 14 53 30 rfl rfl rfl rfl (by kernel_rfl) (by kernel_rfl) rfl (fun ρ wq g cs u hx hy hb hc hu => st_table rfl g cs u hx hy hb hc hu) _
    · clear hfr hdi
      intro fq wq hf hbq
      have e47 : fq 47 = .slice a5 pn c5 := hf 47 (by decide)
      have e48 : fq 48 = .agg #[.int .i64 N, .int .i64 R, .slice a6 n c6] := hf 48 (by decide)
      have e49 : fq 49 = .agg #[.int .i64 y0, .int .i64 y1, .int .i64 y2, .int .i64 y3, .int .i64 y4] := hf 49 (by decide)
      have e50 : fq 50 = .agg #[.int .i64 y0, .int .i64 y1, .int .i64 y2, .int .i64 y3, .int .i64 y4] := hf 50 (by decide)
      have e51 : fq 51 = .int .i64 now := hf 51 (by decide)
      obtain ⟨a52, c52, e52, o52⟩ : ∃ (a2 : Option Addr) (c2 : Nat), fq 52 = .tuple #[.agg #[.int .i64 v1, .int .i64 v2, .slice a2 v3.length c2], .int .i64 vh] ∧ wq.ownsRow w7.heap.size 69 7 (.slice a2 v3.length c2) v3.length (eCells v3) := hf 52 (by decide)
      clear o52
      obtain ⟨a46, c46, e46, o46⟩ : ∃ (a2 : Option Addr) (c2 : Nat), fq 46 = .tuple #[.agg #[.int .i64 v1, .int .i64 v2, .slice a2 v3.length c2], .int .i64 vh] ∧ wq.ownsRow w7.heap.size 69 7 (.slice a2 v3.length c2) v3.length (eCells v3) := hf 46 (by decide)
      clear o46
      obtain ⟨a53, c53, e53, o53⟩ : ∃ (a2 : Option Addr) (c2 : Nat), fq 53 = .agg #[.int .i64 v1, .int .i64 v2, .slice a2 v3.length c2] ∧ wq.ownsRow w7.heap.size 69 7 (.slice a2 v3.length c2) v3.length (eCells v3) := hf 53 (by decide)
      clear o53
      have e54 : fq 54 = .int .i64 vh := hf 54 (by decide)
      obtain ⟨g14, a14, c14, e14, l14, b14, o14⟩ : ∃ (g : Nat) (a2 : Option Addr) (c2 : Nat), fq 14 = .pointer (some ⟨g, 0, none⟩) ∧ w7.heap.size ≤ g ∧ Box wq g 30 (Value.cells (.agg #[.int .i64 v1, .int .i64 v2, .slice a2 v3.length c2])).toList ∧ wq.ownsRow w7.heap.size 69 7 (.slice a2 v3.length c2) v3.length (eCells v3) := by
        obtain ⟨g, u, h1, h2, h3, a2, c2, rfl, h4⟩ := hf 14 (by decide)
        exact ⟨g, a2, c2, h1, h2, h3, h4⟩
      simp only [List.drop_succ_cons, List.drop_zero, putL, Act.put, List.setIfInBounds_toArray, List.set_cons_succ, List.set_cons_zero, e47, e48, e49, e50, e51, e52, e46, e53, e54, e14]
      clear hf e47 e48 e49 e50 e51 e52 e46 e53 e54 e14
      obtain ⟨w8, rfl⟩ : ∃ W, W = wq := ⟨_, rfl⟩
      have z8 := hbq.size
      have D8 := Lib.hid (Below.step D7.out hbq (by omega))
      have AW8 := Lib.hid (Below.step AW7.out hbq (by omega))
      have BP8 := Lib.hid (BP7.out.keep hbq)
      have BQ8 := Lib.hid (BQ7.out.keep hbq)
      have BY8 := Lib.hid (BY7.out.keep hbq)
      have BX08 := Lib.hid (BX07.out.keep hbq)
      have OY8 := Lib.hid (row_below OY7.out hbq)
      have OXH8 := Lib.hid (row_below OXH7.out hbq)
      have OX08 := Lib.hid (row_below OX07.out hbq)
      have BG8 : Hid (Box w8 g14 30 [.int .i64 v1, .int .i64 v2, .slice a14 v3.length c14]) := Lib.hid b14
      have hgl14 := BG8.out.lt
      clear b14
      have OG8 : Hid (w8.ownsRow w7.heap.size 69 7 (.slice a14 v3.length c14) v3.length (eCells v3)) := Lib.hid o14
      have LG := Lib.hid (fun k hk => OG8.out.lt k hk)
      clear o14
      clear hbq
      clear AW6 BP6 BQ6 BY6 OY6 OXH6 OX06
      clear AW7 BP7 BQ7 BY7 BX07 OY7 OXH7 OX07
      obtain ⟨xG0, xG1, xG2, xGf⟩ := BG8.out.three
      obtain ⟨xY0, xY1, xY2, xYf⟩ := BY8.out.three
      go_wp2_with fail
      refine (c_eqTable v1 v2 _ _ v3.length _ _ v3 _ rfl HN3.out (EntRow.ents OG8.out) (EntRow.ents OY8.out)).mono ?_; rintro e w9 ⟨rfl, g9⟩
      clear xG0 xG1 xG2 xGf xY0 xY1 xY2 xYf
      have z9 := g9.size
      have D9 := Lib.hid (Below.step D8.out g9 (by omega))
      have AW9 := Lib.hid (Below.step AW8.out g9 (by omega))
      have BP9 := Lib.hid (BP8.out.keep g9)
      have BQ9 := Lib.hid (BQ8.out.keep g9)
      have BY9 := Lib.hid (BY8.out.keep g9)
      have BX09 := Lib.hid (BX08.out.keep g9)
      have BG9 := Lib.hid (BG8.out.keep g9)
      have OY9 := Lib.hid (row_below OY8.out g9)
      have OXH9 := Lib.hid (row_below OXH8.out g9)
      have OX09 := Lib.hid (row_below OX08.out g9)
      have OG9 := Lib.hid (row_below OG8.out g9)
      clear g9
      clear AW8 BP8 BQ8 BY8 BX08 BG8 OY8 OXH8 OX08 OG8
      go_wp2_with fail
      refine (c_toHostS p pn pc hs _ HP.out hpn (RH.out.below AW9.out)).mono ?_; rintro e w10 ⟨a10, c10, rfl, o10, g10⟩
      have z10 := (grown_below g10).size
      have D10 := Lib.hid (Below.step D9.out (grown_below g10) (by omega))
      have AW10 := Lib.hid (Below.step AW9.out (grown_below g10) (by omega))
      have BP10 := Lib.hid (BP9.out.keep (grown_below g10))
      have BQ10 := Lib.hid (BQ9.out.keep (grown_below g10))
      have BY10 := Lib.hid (BY9.out.keep (grown_below g10))
      have BX010 := Lib.hid (BX09.out.keep (grown_below g10))
      have BG10 := Lib.hid (BG9.out.keep (grown_below g10))
      have OY10 := Lib.hid (row_below OY9.out (grown_below g10))
      have OXH10 := Lib.hid (row_below OXH9.out (grown_below g10))
      have OX010 := Lib.hid (row_below OX09.out (grown_below g10))
      have OG10 := Lib.hid (row_below OG9.out (grown_below g10))
      have OT10 := Lib.hid o10
      have LT := Lib.hid (fun k hk => o10.lt k hk)
      clear g10 o10
      clear AW9 BP9 BQ9 BY9 BX09 BG9 OY9 OXH9 OX09 OG9
      go_wp2_with fail
      refine (c_eqHostS _ _ _ _ _ hs _ HP.out hpn (row_vals OXH10.out) (row_vals OT10.out)).mono ?_; rintro e w11 ⟨rfl, g11⟩
      have z11 := g11.size
      have D11 := Lib.hid (Below.step D10.out g11 (by omega))
      have AW11 := Lib.hid (Below.step AW10.out g11 (by omega))
      have BP11 := Lib.hid (BP10.out.keep g11)
      have BQ11 := Lib.hid (BQ10.out.keep g11)
      have BY11 := Lib.hid (BY10.out.keep g11)
      have BX011 := Lib.hid (BX010.out.keep g11)
      have BG11 := Lib.hid (BG10.out.keep g11)
      have OY11 := Lib.hid (row_below OY10.out g11)
      have OXH11 := Lib.hid (row_below OXH10.out g11)
      have OX011 := Lib.hid (row_below OX010.out g11)
      have OG11 := Lib.hid (row_below OG10.out g11)
      have OT11 := Lib.hid (row_below OT10.out g11)
      clear g11
      clear AW10 BP10 BQ10 BY10 BX010 BG10 OY10 OXH10 OX010 OG10 OT10
      clear OT11
      go_wp2_with fail
      go_upto_region 16 with fail
      refine region_any _ 4 132 [69, 70, 71, 72] [(69, .val (.agg #[.int .i64 N, .int .i64 R, .slice a6 n c6])), (70, .val (.agg #[.int .i64 N, .int .i64 R, .slice a n cap])), (71, .row w11.heap.size 69 7 n (eCells es) (fun s => .agg #[.int .i64 N, .int .i64 R, s])), (72, .val (.bool true))] rfl (by kernel_rfl) ?_ ?_
      · refine ⟨?_, ?_, ?_, ?_, trivial⟩
        · refine op_val (d := 69) rfl (.agg #[.int .i64 N, .int .i64 R, .slice a6 n c6]) (fun fr9 wq hf _ hb => ⟨?_, ?_⟩) _
          rotate_left
          · exact rfl
          exact run_ldTi _ _ _ (.tmp 13) _ _ _ _ rfl (hf 13 (by kernel_rfl)) (BX011.out.keep hb)
        · refine op_val (d := 70) rfl (.agg #[.int .i64 N, .int .i64 R, .slice a n cap]) (fun fr9 wq hf _ hb => ⟨?_, ?_⟩) _
          rotate_left
          · exact rfl
          exact run_ldTl _ _ _ (.tmp 5) _ _ _ _ rfl (hf 5 (by kernel_rfl)) (BP11.out.keep hb)
        · intro fr9 wq hf hd hb
          have e70 : fr9.tmps.getD 70 undef = .agg #[.int .i64 N, .int .i64 R, .slice a n cap] := hd 70 (by kernel_rfl)
          have hv9 : (#[Operand.tmp 70] : Array Operand).map fr9.eval = #[.agg #[.int .i64 N, .int .i64 R, .slice a n cap]] := by simp only [List.map_toArray, List.map_cons, List.map_nil, Act.eval, e70]
          refine ⟨71, rfl, op_call rfl (run_callL _ _ _ 25 _ _ _ rfl rfl hv9 (enters_of Try.func25 (by kernel_rfl) rfl)) ?_⟩
          refine (c_toTable N R a n cap es _ HL.out hn ((RI.out.below AW11.out).below hb)).mono ?_
          rintro e w5 ⟨a5, c5, rfl, o5, g5⟩
          exact ⟨_, rfl, _, rfl, ⟨a5, c5, rfl, row_wider o5 hb.size⟩, grown_below g5⟩
        · intro fr9 wq hf hd hb
          have e69 : fr9.tmps.getD 69 undef = .agg #[.int .i64 N, .int .i64 R, .slice a6 n c6] := hd 69 (by kernel_rfl)
          obtain ⟨a71, c71, e71, o71⟩ : ∃ (a2 : Option Addr) (c2 : Nat), fr9.tmps.getD 71 undef = .agg #[.int .i64 N, .int .i64 R, .slice a2 n c2] ∧ wq.ownsRow w11.heap.size 69 7 (.slice a2 n c2) n (eCells es) := hd 71 (by kernel_rfl)
          have hv9 : (#[Operand.tmp 69, Operand.tmp 71] : Array Operand).map fr9.eval = #[.agg #[.int .i64 N, .int .i64 R, .slice a6 n c6], .agg #[.int .i64 N, .int .i64 R, .slice a71 n c71]] := by simp only [List.map_toArray, List.map_cons, List.map_nil, Act.eval, e69, e71]
          refine ⟨72, rfl, op_call rfl (run_callL _ _ _ 28 _ _ _ rfl rfl hv9 (enters_of Try.func28 (by kernel_rfl) rfl)) ?_⟩
          refine (c_eqTable N R _ _ n _ _ es _ HL.out hn (EntRow.ents (row_below OX011.out hb)) (EntRow.ents o71)).mono ?_
          rintro e w5 ⟨rfl, g5⟩
          exact ⟨_, rfl, _, rfl, rfl, g5⟩
      · intro fq wq hf hbq
        have e69 : fq 69 = .agg #[.int .i64 N, .int .i64 R, .slice a6 n c6] := hf 69 (by decide)
        have e70 : fq 70 = .agg #[.int .i64 N, .int .i64 R, .slice a n cap] := hf 70 (by decide)
        obtain ⟨a71, c71, e71, o71⟩ : ∃ (a2 : Option Addr) (c2 : Nat), fq 71 = .agg #[.int .i64 N, .int .i64 R, .slice a2 n c2] ∧ wq.ownsRow w11.heap.size 69 7 (.slice a2 n c2) n (eCells es) := hf 71 (by decide)
        have e72 : fq 72 = .bool true := hf 72 (by decide)
        simp only [List.drop_succ_cons, List.drop_zero, putL, Act.put, List.setIfInBounds_toArray, List.set_cons_succ, List.set_cons_zero, e69, e70, e71, e72]
        clear hf e69 e70 e71 e72
        obtain ⟨w12, rfl⟩ : ∃ W, W = wq := ⟨_, rfl⟩
        have z12 := hbq.size
        have D12 := Lib.hid (Below.step D11.out hbq (by omega))
        have AW12 := Lib.hid (Below.step AW11.out hbq (by omega))
        have BP12 := Lib.hid (BP11.out.keep hbq)
        have BQ12 := Lib.hid (BQ11.out.keep hbq)
        have BY12 := Lib.hid (BY11.out.keep hbq)
        have BX012 := Lib.hid (BX011.out.keep hbq)
        have BG12 := Lib.hid (BG11.out.keep hbq)
        have OY12 := Lib.hid (row_below OY11.out hbq)
        have OXH12 := Lib.hid (row_below OXH11.out hbq)
        have OX012 := Lib.hid (row_below OX011.out hbq)
        have OG12 := Lib.hid (row_below OG11.out hbq)
        clear hbq o71
        clear AW11 BP11 BQ11 BY11 BX011 BG11 OY11 OXH11 OX011 OG11
        go_wp2_with fail
        refine (c_markHostS _ pn _ _ 1 _ _ hpn (by omega) (by omega) OXH12.out).mono ?_; rintro e w13 ⟨rfl, o13, g13⟩
        have z13 := g13.size
        have D13 := Lib.hid (D12.out.grown g13 (by omega) (fun k hk => by have := (LXH.out k hk).1; omega))
        have AW13 := Lib.hid (AW12.out.grown g13 (by omega) (fun k hk => by have := (LXH.out k hk).1; omega))
        have BP13 := Lib.hid (Box.kept BP12.out g13 (row_ne OXH12.out BP12.out (by decide)))
        have BQ13 := Lib.hid (Box.kept BQ12.out g13 (row_ne OXH12.out BQ12.out (by decide)))
        have BY13 := Lib.hid (Box.kept BY12.out g13 (row_ne OXH12.out BY12.out (by decide)))
        have BX013 := Lib.hid (Box.kept BX012.out g13 (row_ne OXH12.out BX012.out (by decide)))
        have BG13 := Lib.hid (Box.kept BG12.out g13 (row_ne OXH12.out BG12.out (by decide)))
        have OY13 := Lib.hid (row_kept OY12.out g13 (fun k hk h => by have := LY.out k hk; have := LXH.out k h; omega))
        have OX013 := Lib.hid (row_kept OX012.out g13 (fun k hk h => by have := LX0.out k hk; have := LXH.out k h; omega))
        have OG13 := Lib.hid (row_kept OG12.out g13 (fun k hk h => by have := LG.out k hk; have := LXH.out k h; omega))
        have OXH13 := Lib.hid o13
        clear o13 g13
        clear AW12 BP12 BQ12 BY12 BX012 BG12 OY12 OXH12 OX012 OG12
        obtain ⟨xX00, xX01, xX02, xX0f⟩ := BX013.out.three
        go_wp2_with fail
        refine (c_markTable _ N R _ n _ (1 + 3 * (pn : Int)) _ _ hn (by omega) (by omega) OX013.out).mono ?_; rintro e w14 ⟨rfl, o14, g14⟩
        clear xX00 xX01 xX02 xX0f
        have z14 := g14.size
        have D14 := Lib.hid (D13.out.grown g14 (by omega) (fun k hk => by have := (LX0.out k hk).1; omega))
        have AW14 := Lib.hid (AW13.out.grown g14 (by omega) (fun k hk => by have := (LX0.out k hk).1; omega))
        have BP14 := Lib.hid (Box.kept BP13.out g14 (row_ne OX013.out BP13.out (by decide)))
        have BQ14 := Lib.hid (Box.kept BQ13.out g14 (row_ne OX013.out BQ13.out (by decide)))
        have BY14 := Lib.hid (Box.kept BY13.out g14 (row_ne OX013.out BY13.out (by decide)))
        have BX014 := Lib.hid (Box.kept BX013.out g14 (row_ne OX013.out BX013.out (by decide)))
        have BG14 := Lib.hid (Box.kept BG13.out g14 (row_ne OX013.out BG13.out (by decide)))
        have OY14 := Lib.hid (row_kept OY13.out g14 (fun k hk h => by have := LY.out k hk; have := LX0.out k h; omega))
        have OXH14 := Lib.hid (row_kept OXH13.out g14 (fun k hk h => by have := LXH.out k hk; have := LX0.out k h; omega))
        have OG14 := Lib.hid (row_kept OG13.out g14 (fun k hk h => by have := LG.out k hk; have := LX0.out k h; omega))
        have OX014 := Lib.hid o14
        clear o14 g14
        clear AW13 BP13 BQ13 BY13 BX013 BG13 OY13 OXH13 OX013 OG13
        have hk1 : ¬ (1 + 3 * (pn : Int) + 7 * (n : Int) < 0) := by omega
        obtain ⟨xG0, xG1, xG2, xGf⟩ := BG14.out.three
        obtain ⟨xY0, xY1, xY2, xYf⟩ := BY14.out.three
        go_wp2_with fail
        refine (c_eqTable v1 v2 _ _ v3.length _ _ v3 _ rfl HN3.out (EntRow.ents OG14.out) (EntRow.ents OY14.out)).mono ?_; rintro e w15 ⟨rfl, g15⟩
        clear xG0 xG1 xG2 xGf xY0 xY1 xY2 xYf
        have z15 := g15.size
        have D15 := Lib.hid (Below.step D14.out g15 (by omega))
        have AW15 := Lib.hid (Below.step AW14.out g15 (by omega))
        have BP15 := Lib.hid (BP14.out.keep g15)
        have BQ15 := Lib.hid (BQ14.out.keep g15)
        have BY15 := Lib.hid (BY14.out.keep g15)
        have BX015 := Lib.hid (BX014.out.keep g15)
        have BG15 := Lib.hid (BG14.out.keep g15)
        have OY15 := Lib.hid (row_below OY14.out g15)
        have OXH15 := Lib.hid (row_below OXH14.out g15)
        have OX015 := Lib.hid (row_below OX014.out g15)
        have OG15 := Lib.hid (row_below OG14.out g15)
        clear g15
        clear AW14 BP14 BQ14 BY14 BX014 BG14 OY14 OXH14 OX014 OG14
        obtain ⟨xG0, xG1, xG2, xGf⟩ := BG15.out.three
        go_wp2_with fail
        refine (c_markTable _ v1 v2 _ v3.length _ 1 _ _ HN3.out (by omega) (by omega) OG15.out).mono ?_; rintro e w16 ⟨rfl, o16, g16⟩
        clear xG0 xG1 xG2 xGf
        have z16 := g16.size
        have D16 := Lib.hid (D15.out.grown g16 (by omega) (fun k hk => by have := (LG.out k hk).1; omega))
        have AW16 := Lib.hid (AW15.out.grown g16 (by omega) (fun k hk => by have := (LG.out k hk).1; omega))
        have BP16 := Lib.hid (Box.kept BP15.out g16 (row_ne OG15.out BP15.out (by decide)))
        have BQ16 := Lib.hid (Box.kept BQ15.out g16 (row_ne OG15.out BQ15.out (by decide)))
        have BY16 := Lib.hid (Box.kept BY15.out g16 (row_ne OG15.out BY15.out (by decide)))
        have BX016 := Lib.hid (Box.kept BX015.out g16 (row_ne OG15.out BX015.out (by decide)))
        have BG16 := Lib.hid (Box.kept BG15.out g16 (row_ne OG15.out BG15.out (by decide)))
        have OY16 := Lib.hid (row_kept OY15.out g16 (fun k hk h => by have := LY.out k hk; have := LG.out k h; omega))
        have OXH16 := Lib.hid (row_kept OXH15.out g16 (fun k hk h => by have := LXH.out k hk; have := LG.out k h; omega))
        have OX016 := Lib.hid (row_kept OX015.out g16 (fun k hk h => by have := LX0.out k hk; have := LG.out k h; omega))
        have OG16 := Lib.hid o16
        clear o16 g16
        clear AW15 BP15 BQ15 BY15 BX015 BG15 OY15 OXH15 OX015 OG15
        have hh1 : ¬ (1 + 7 * (v3.length : Int) < 0) := by omega
        obtain ⟨xG0, xG1, xG2, xGf⟩ := BG16.out.three
        go_wp2_with fail
        refine (c_heldTable v1 v2 _ v3.length _ 1 _ HN3.out (by omega) (by omega) (row_vals OG16.out)).mono ?_; rintro e w17 ⟨rfl, g17⟩
        clear xG0 xG1 xG2 xGf
        have z17 := g17.size
        have D17 := Lib.hid (Below.step D16.out g17 (by omega))
        have AW17 := Lib.hid (Below.step AW16.out g17 (by omega))
        have BP17 := Lib.hid (BP16.out.keep g17)
        have BQ17 := Lib.hid (BQ16.out.keep g17)
        have BY17 := Lib.hid (BY16.out.keep g17)
        have BX017 := Lib.hid (BX016.out.keep g17)
        have BG17 := Lib.hid (BG16.out.keep g17)
        have OY17 := Lib.hid (row_below OY16.out g17)
        have OXH17 := Lib.hid (row_below OXH16.out g17)
        have OX017 := Lib.hid (row_below OX016.out g17)
        have OG17 := Lib.hid (row_below OG16.out g17)
        clear g17
        clear AW16 BP16 BQ16 BY16 BX016 BG16 OY16 OXH16 OX016 OG16
        go_upto_region 31 with fail
        obtain ⟨hfr, hdi⟩ := bs_one (x := ⟨19, 30, [.int .i64 0, .int .i64 0, .slice none 0 0], .row w17.heap.size 69 7 v3.length (eCells v3) (fun s => .agg #[.int .i64 v1, .int .i64 v2, s])⟩) (by kernel_rfl)
        refine region_anyS _ 13 132 [105, 106, 107, 108, 109, 110, 111, 112, 104, 113, 114, 19] [⟨19, 30, [.int .i64 0, .int .i64 0, .slice none 0 0], .row w17.heap.size 69 7 v3.length (eCells v3) (fun s => .agg #[.int .i64 v1, .int .i64 v2, s])⟩] [(105, .val (.slice p pn pc)), (106, .row w17.heap.size 97 3 pn (hcells hs) (fun s => s)), (107, .val (.agg #[.int .i64 N, .int .i64 R, .slice a n cap])), (108, .row w17.heap.size 69 7 n (eCells es) (fun s => .agg #[.int .i64 N, .int .i64 R, s])), (109, .val (.agg #[.int .i64 y0, .int .i64 y1, .int .i64 y2, .int .i64 y3, .int .i64 y4])), (110, .val (.agg #[.int .i64 y0, .int .i64 y1, .int .i64 y2, .int .i64 y3, .int .i64 y4])), (111, .val (.int .i64 now)), (112, .row w17.heap.size 69 7 v3.length (eCells v3) (fun s => .tuple #[.agg #[.int .i64 v1, .int .i64 v2, s], .int .i64 vh])), (104, .row w17.heap.size 69 7 v3.length (eCells v3) (fun s => .tuple #[.agg #[.int .i64 v1, .int .i64 v2, s], .int .i64 vh])), (113, .row w17.heap.size 69 7 v3.length (eCells v3) (fun s => .agg #[.int .i64 v1, .int .i64 v2, s])), (114, .val (.int .i64 vh))] rfl (by kernel_rfl) hfr (spAt_free (by kernel_rfl)) hdi (by kernel_rfl) ?_ ?_
        · clear hfr hdi
          refine ⟨?_, ?_, ?_, ?_, ?_, ?_, ?_, ?_, ?_, ?_, ?_, ?_, ?_, trivial⟩
          · refine opS_any (d := 105) rfl rfl (by kernel_rfl) ?_
            refine op_val (d := 105) rfl (.slice p pn pc) (fun fr9 wq hf _ hb => ⟨?_, ?_⟩) _
            rotate_left
            · exact rfl
            exact (run_mv _ _ _ (.tmp 0) _ (hf 0 (by kernel_rfl))).1 rfl
          · refine opS_any (d := 106) rfl rfl (by kernel_rfl) ?_
            intro fr9 wq hf hd hb
            have e105 : fr9.tmps.getD 105 undef = .slice p pn pc := hd 105 (by kernel_rfl)
            have hv9 : (#[Operand.tmp 105] : Array Operand).map fr9.eval = #[.slice p pn pc] := by simp only [List.map_toArray, List.map_cons, List.map_nil, Act.eval, e105]
            refine ⟨106, rfl, op_call rfl (run_callL _ _ _ 24 _ _ _ rfl rfl hv9 (enters_of Try.func24 (by kernel_rfl) rfl)) ?_⟩
            refine (c_toHostS p pn pc hs _ HP.out hpn ((RH.out.below AW17.out).below hb)).mono ?_
            rintro e w5 ⟨a5, c5, rfl, o5, g5⟩
            exact ⟨_, rfl, _, rfl, ⟨a5, c5, rfl, row_wider o5 hb.size⟩, grown_below g5⟩
          · refine opS_any (d := 107) rfl rfl (by kernel_rfl) ?_
            refine op_val (d := 107) rfl (.agg #[.int .i64 N, .int .i64 R, .slice a n cap]) (fun fr9 wq hf _ hb => ⟨?_, ?_⟩) _
            rotate_left
            · exact rfl
            exact run_ldTl _ _ _ (.tmp 5) _ _ _ _ rfl (hf 5 (by kernel_rfl)) (BP17.out.keep hb)
          · refine opS_any (d := 108) rfl rfl (by kernel_rfl) ?_
            intro fr9 wq hf hd hb
            have e107 : fr9.tmps.getD 107 undef = .agg #[.int .i64 N, .int .i64 R, .slice a n cap] := hd 107 (by kernel_rfl)
            have hv9 : (#[Operand.tmp 107] : Array Operand).map fr9.eval = #[.agg #[.int .i64 N, .int .i64 R, .slice a n cap]] := by simp only [List.map_toArray, List.map_cons, List.map_nil, Act.eval, e107]
            refine ⟨108, rfl, op_call rfl (run_callL _ _ _ 25 _ _ _ rfl rfl hv9 (enters_of Try.func25 (by kernel_rfl) rfl)) ?_⟩
            refine (c_toTable N R a n cap es _ HL.out hn ((RI.out.below AW17.out).below hb)).mono ?_
            rintro e w5 ⟨a5, c5, rfl, o5, g5⟩
            exact ⟨_, rfl, _, rfl, ⟨a5, c5, rfl, row_wider o5 hb.size⟩, grown_below g5⟩
          · refine opS_any (d := 109) rfl rfl (by kernel_rfl) ?_
            refine op_val (d := 109) rfl (.agg #[.int .i64 y0, .int .i64 y1, .int .i64 y2, .int .i64 y3, .int .i64 y4]) (fun fr9 wq hf _ hb => ⟨?_, ?_⟩) _
            rotate_left
            · exact rfl
            exact run_ldFl _ _ _ (.tmp 6) _ _ _ _ _ _ rfl (hf 6 (by kernel_rfl)) (BQ17.out.keep hb)
          · refine opS_any (d := 110) rfl rfl (by kernel_rfl) ?_
            intro fr9 wq hf hd hb
            have e109 : fr9.tmps.getD 109 undef = .agg #[.int .i64 y0, .int .i64 y1, .int .i64 y2, .int .i64 y3, .int .i64 y4] := hd 109 (by kernel_rfl)
            have hv9 : (#[Operand.tmp 109] : Array Operand).map fr9.eval = #[.agg #[.int .i64 y0, .int .i64 y1, .int .i64 y2, .int .i64 y3, .int .i64 y4]] := by simp only [List.map_toArray, List.map_cons, List.map_nil, Act.eval, e109]
            refine ⟨110, rfl, op_call rfl (run_callL _ _ _ 26 _ _ _ rfl rfl hv9 (enters_of Try.func26 (by kernel_rfl) rfl)) ?_⟩
            refine (c_toFlow y0 y1 y2 y3 y4 _).mono ?_
            rintro e w5 ⟨rfl, g5⟩
            exact ⟨_, rfl, _, rfl, rfl, g5⟩
          · refine opS_any (d := 111) rfl rfl (by kernel_rfl) ?_
            refine op_val (d := 111) rfl (.int .i64 now) (fun fr9 wq hf _ hb => ⟨?_, ?_⟩) _
            rotate_left
            · exact rfl
            exact (run_mv _ _ _ (.tmp 3) _ (hf 3 (by kernel_rfl))).1 rfl
          · refine opS_any (d := 112) rfl rfl (by kernel_rfl) ?_
            intro fr9 wq hf hd hb
            obtain ⟨a106, c106, e106, o106⟩ : ∃ (a2 : Option Addr) (c2 : Nat), fr9.tmps.getD 106 undef = .slice a2 pn c2 ∧ wq.ownsRow w17.heap.size 97 3 (.slice a2 pn c2) pn (hcells hs) := hd 106 (by kernel_rfl)
            obtain ⟨a108, c108, e108, o108⟩ : ∃ (a2 : Option Addr) (c2 : Nat), fr9.tmps.getD 108 undef = .agg #[.int .i64 N, .int .i64 R, .slice a2 n c2] ∧ wq.ownsRow w17.heap.size 69 7 (.slice a2 n c2) n (eCells es) := hd 108 (by kernel_rfl)
            have e110 : fr9.tmps.getD 110 undef = .agg #[.int .i64 y0, .int .i64 y1, .int .i64 y2, .int .i64 y3, .int .i64 y4] := hd 110 (by kernel_rfl)
            have e111 : fr9.tmps.getD 111 undef = .int .i64 now := hd 111 (by kernel_rfl)
            have hv9 : (#[Operand.tmp 106, Operand.tmp 108, Operand.tmp 110, Operand.tmp 111] : Array Operand).map fr9.eval = #[.slice a106 pn c106, .agg #[.int .i64 N, .int .i64 R, .slice a108 n c108], .agg #[.int .i64 y0, .int .i64 y1, .int .i64 y2, .int .i64 y3, .int .i64 y4], .int .i64 now] := by simp only [List.map_toArray, List.map_cons, List.map_nil, Act.eval, e106, e108, e110, e111]
            refine ⟨112, rfl, op_call rfl (run_callL _ _ _ 27 _ _ _ rfl rfl hv9 (enters_of Try.func27 (by kernel_rfl) rfl)) ?_⟩
            refine (c_Fwd_v HV.out a106 pn c106 a108 n c108 _ HP.out hpn o106 HL.out hn o108).mono ?_
            rintro e w5 ⟨a5, c5, rfl, o5, g5⟩
            exact ⟨_, rfl, _, rfl, ⟨a5, c5, rfl, row_wider o5 hb.size⟩, grown_below g5⟩
          · refine opS_any (d := 104) rfl rfl (by kernel_rfl) ?_
            intro fr9 wq hf hd hb
            obtain ⟨a112, c112, e112, o112⟩ : ∃ (a2 : Option Addr) (c2 : Nat), fr9.tmps.getD 112 undef = .tuple #[.agg #[.int .i64 v1, .int .i64 v2, .slice a2 v3.length c2], .int .i64 vh] ∧ wq.ownsRow w17.heap.size 69 7 (.slice a2 v3.length c2) v3.length (eCells v3) := hd 112 (by kernel_rfl)
            exact ⟨104, rfl, wp_val2 rfl ((run_mv _ _ _ (.tmp 112) _ e112).1 rfl) ⟨_, rfl, ⟨a112, c112, rfl, o112⟩, Below.refl _ _⟩⟩
          · refine opS_any (d := 113) rfl rfl (by kernel_rfl) ?_
            intro fr9 wq hf hd hb
            obtain ⟨a104, c104, e104, o104⟩ : ∃ (a2 : Option Addr) (c2 : Nat), fr9.tmps.getD 104 undef = .tuple #[.agg #[.int .i64 v1, .int .i64 v2, .slice a2 v3.length c2], .int .i64 vh] ∧ wq.ownsRow w17.heap.size 69 7 (.slice a2 v3.length c2) v3.length (eCells v3) := hd 104 (by kernel_rfl)
            exact ⟨113, rfl, wp_val2 rfl (run_ext _ _ _ (.tmp 104) 0 _ _ rfl e104 rfl) ⟨_, rfl, ⟨a104, c104, rfl, o104⟩, Below.refl _ _⟩⟩
          · refine opS_any (d := 114) rfl rfl (by kernel_rfl) ?_
            intro fr9 wq hf hd hb
            obtain ⟨a104, c104, e104, o104⟩ : ∃ (a2 : Option Addr) (c2 : Nat), fr9.tmps.getD 104 undef = .tuple #[.agg #[.int .i64 v1, .int .i64 v2, .slice a2 v3.length c2], .int .i64 vh] ∧ wq.ownsRow w17.heap.size 69 7 (.slice a2 v3.length c2) v3.length (eCells v3) := hd 104 (by kernel_rfl)
            exact ⟨114, rfl, wp_val2 rfl (run_ext _ _ _ (.tmp 104) 1 _ _ rfl e104 rfl) ⟨_, rfl, rfl, Below.refl _ _⟩⟩
          · exact opS_alloc (d := 19) rfl rfl (fun ρ wq => run_alTi _ ρ wq rfl) _
          · exact opS_store 19 113 30 rfl rfl rfl rfl (by kernel_rfl) (by kernel_rfl) rfl (fun ρ wq g cs u hx hy hb hc hu => st_table rfl g cs u hx hy hb hc hu) _
        · clear hfr hdi
          intro fq wq hf hbq
          have e105 : fq 105 = .slice p pn pc := hf 105 (by decide)
          obtain ⟨a106, c106, e106, o106⟩ : ∃ (a2 : Option Addr) (c2 : Nat), fq 106 = .slice a2 pn c2 ∧ wq.ownsRow w17.heap.size 97 3 (.slice a2 pn c2) pn (hcells hs) := hf 106 (by decide)
          clear o106
          have e107 : fq 107 = .agg #[.int .i64 N, .int .i64 R, .slice a n cap] := hf 107 (by decide)
          obtain ⟨a108, c108, e108, o108⟩ : ∃ (a2 : Option Addr) (c2 : Nat), fq 108 = .agg #[.int .i64 N, .int .i64 R, .slice a2 n c2] ∧ wq.ownsRow w17.heap.size 69 7 (.slice a2 n c2) n (eCells es) := hf 108 (by decide)
          clear o108
          have e109 : fq 109 = .agg #[.int .i64 y0, .int .i64 y1, .int .i64 y2, .int .i64 y3, .int .i64 y4] := hf 109 (by decide)
          have e110 : fq 110 = .agg #[.int .i64 y0, .int .i64 y1, .int .i64 y2, .int .i64 y3, .int .i64 y4] := hf 110 (by decide)
          have e111 : fq 111 = .int .i64 now := hf 111 (by decide)
          obtain ⟨a112, c112, e112, o112⟩ : ∃ (a2 : Option Addr) (c2 : Nat), fq 112 = .tuple #[.agg #[.int .i64 v1, .int .i64 v2, .slice a2 v3.length c2], .int .i64 vh] ∧ wq.ownsRow w17.heap.size 69 7 (.slice a2 v3.length c2) v3.length (eCells v3) := hf 112 (by decide)
          clear o112
          obtain ⟨a104, c104, e104, o104⟩ : ∃ (a2 : Option Addr) (c2 : Nat), fq 104 = .tuple #[.agg #[.int .i64 v1, .int .i64 v2, .slice a2 v3.length c2], .int .i64 vh] ∧ wq.ownsRow w17.heap.size 69 7 (.slice a2 v3.length c2) v3.length (eCells v3) := hf 104 (by decide)
          clear o104
          obtain ⟨a113, c113, e113, o113⟩ : ∃ (a2 : Option Addr) (c2 : Nat), fq 113 = .agg #[.int .i64 v1, .int .i64 v2, .slice a2 v3.length c2] ∧ wq.ownsRow w17.heap.size 69 7 (.slice a2 v3.length c2) v3.length (eCells v3) := hf 113 (by decide)
          clear o113
          have e114 : fq 114 = .int .i64 vh := hf 114 (by decide)
          obtain ⟨g19, a19, c19, e19, l19, b19, o19⟩ : ∃ (g : Nat) (a2 : Option Addr) (c2 : Nat), fq 19 = .pointer (some ⟨g, 0, none⟩) ∧ w17.heap.size ≤ g ∧ Box wq g 30 (Value.cells (.agg #[.int .i64 v1, .int .i64 v2, .slice a2 v3.length c2])).toList ∧ wq.ownsRow w17.heap.size 69 7 (.slice a2 v3.length c2) v3.length (eCells v3) := by
            obtain ⟨g, u, h1, h2, h3, a2, c2, rfl, h4⟩ := hf 19 (by decide)
            exact ⟨g, a2, c2, h1, h2, h3, h4⟩
          simp only [List.drop_succ_cons, List.drop_zero, putL, Act.put, List.setIfInBounds_toArray, List.set_cons_succ, List.set_cons_zero, e105, e106, e107, e108, e109, e110, e111, e112, e104, e113, e114, e19]
          clear hf e105 e106 e107 e108 e109 e110 e111 e112 e104 e113 e114 e19
          obtain ⟨w18, rfl⟩ : ∃ W, W = wq := ⟨_, rfl⟩
          have z18 := hbq.size
          have D18 := Lib.hid (Below.step D17.out hbq (by omega))
          have AW18 := Lib.hid (Below.step AW17.out hbq (by omega))
          have BP18 := Lib.hid (BP17.out.keep hbq)
          have BQ18 := Lib.hid (BQ17.out.keep hbq)
          have BY18 := Lib.hid (BY17.out.keep hbq)
          have BX018 := Lib.hid (BX017.out.keep hbq)
          have BG18 := Lib.hid (BG17.out.keep hbq)
          have OY18 := Lib.hid (row_below OY17.out hbq)
          have OXH18 := Lib.hid (row_below OXH17.out hbq)
          have OX018 := Lib.hid (row_below OX017.out hbq)
          have OG18 := Lib.hid (row_below OG17.out hbq)
          have BU18 : Hid (Box w18 g19 30 [.int .i64 v1, .int .i64 v2, .slice a19 v3.length c19]) := Lib.hid b19
          have hgl19 := BU18.out.lt
          clear b19
          have OU18 : Hid (w18.ownsRow w17.heap.size 69 7 (.slice a19 v3.length c19) v3.length (eCells v3)) := Lib.hid o19
          have LU := Lib.hid (fun k hk => OU18.out.lt k hk)
          clear o19
          clear hbq
          clear AW17 BP17 BQ17 BY17 BX017 BG17 OY17 OXH17 OX017 OG17
          obtain ⟨xU0, xU1, xU2, xUf⟩ := BU18.out.three
          obtain ⟨xY0, xY1, xY2, xYf⟩ := BY18.out.three
          go_wp2_with fail
          refine (c_eqTable v1 v2 _ _ v3.length _ _ v3 _ rfl HN3.out (EntRow.ents OU18.out) (EntRow.ents OY18.out)).mono ?_; rintro e w19 ⟨rfl, g19⟩
          clear xU0 xU1 xU2 xUf xY0 xY1 xY2 xYf
          have z19 := g19.size
          have D19 := Lib.hid (Below.step D18.out g19 (by omega))
          have AW19 := Lib.hid (Below.step AW18.out g19 (by omega))
          have BP19 := Lib.hid (BP18.out.keep g19)
          have BQ19 := Lib.hid (BQ18.out.keep g19)
          have BY19 := Lib.hid (BY18.out.keep g19)
          have BX019 := Lib.hid (BX018.out.keep g19)
          have BG19 := Lib.hid (BG18.out.keep g19)
          have BU19 := Lib.hid (BU18.out.keep g19)
          have OY19 := Lib.hid (row_below OY18.out g19)
          have OXH19 := Lib.hid (row_below OXH18.out g19)
          have OX019 := Lib.hid (row_below OX018.out g19)
          have OG19 := Lib.hid (row_below OG18.out g19)
          have OU19 := Lib.hid (row_below OU18.out g19)
          clear g19
          clear AW18 BP18 BQ18 BY18 BX018 BG18 BU18 OY18 OXH18 OX018 OG18 OU18
          obtain ⟨xG0, xG1, xG2, xGf⟩ := BG19.out.three
          go_wp2_with fail
          refine (c_heldTable v1 v2 _ v3.length _ 1 _ HN3.out (by omega) (by omega) (row_vals OG19.out)).mono ?_; rintro e w20 ⟨rfl, g20⟩
          clear xG0 xG1 xG2 xGf
          have z20 := g20.size
          have D20 := Lib.hid (Below.step D19.out g20 (by omega))
          have AW20 := Lib.hid (Below.step AW19.out g20 (by omega))
          have BP20 := Lib.hid (BP19.out.keep g20)
          have BQ20 := Lib.hid (BQ19.out.keep g20)
          have BY20 := Lib.hid (BY19.out.keep g20)
          have BX020 := Lib.hid (BX019.out.keep g20)
          have BG20 := Lib.hid (BG19.out.keep g20)
          have BU20 := Lib.hid (BU19.out.keep g20)
          have OY20 := Lib.hid (row_below OY19.out g20)
          have OXH20 := Lib.hid (row_below OXH19.out g20)
          have OX020 := Lib.hid (row_below OX019.out g20)
          have OG20 := Lib.hid (row_below OG19.out g20)
          have OU20 := Lib.hid (row_below OU19.out g20)
          clear g20
          clear AW19 BP19 BQ19 BY19 BX019 BG19 BU19 OY19 OXH19 OX019 OG19 OU19
          go_wp2_with fail
          go_ret
          exact ⟨rfl, D20.out⟩
end Go.Proofs.Ytdkdfehlmphikaa
