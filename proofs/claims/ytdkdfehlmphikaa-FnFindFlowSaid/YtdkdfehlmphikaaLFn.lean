/- The walk of the law FindFlow: it answers true whatever bytes come in. No condition. -/
import Derived.Test.YtdkdfehlmphikaaDFn
import Derived.Test.YtdkdfehlmphikaaME
import Derived.Test.YtdkdfehlmphikaaMG
namespace Go.Proofs.Ytdkdfehlmphikaa
open Go.RowKit
/-- The host of the last entry of a flow, or -1. -/
def fnd (es : List E7) (f : F5) : Int := es.foldl (fun acc e => if e.1 = f then e.2.1 else acc) (-1)
theorem fnd_step {es : List E7} {f : F5} {k : Nat} (h : k < es.length) : fnd (es.take (k + 1)) f = if (es.getD k e0).1 = f then (es.getD k e0).2.1 else fnd (es.take k) f := by
  rw [fnd, List.take_add_one, List.foldl_append, List.getElem?_eq_getElem h, getD_eq7 h]
  rfl
theorem fnd_no (f : F5) : ∀ (es : List E7) (acc : Int), f ∉ es.map (·.1) → es.foldl (fun acc e => if e.1 = f then e.2.1 else acc) acc = acc
  | [], _, _ => rfl
  | e :: r, acc, h => by
    simp only [List.map_cons, List.mem_cons, not_or] at h
    rw [List.foldl_cons, if_neg (fun h' => h.1 h'.symm)]
    exact fnd_no f r acc h.2
theorem fnd_one (f : F5) (v : Int) : ∀ (es : List E7) (acc : Int), (∀ e ∈ es, e.1 = f → e.2.1 = v) → (acc = v ∨ f ∈ es.map (·.1)) → es.foldl (fun acc e => if e.1 = f then e.2.1 else acc) acc = v
  | [], acc, _, h => by
    rcases h with h | h
    · exact h
    · cases h
  | e :: r, acc, h1, h2 => by
    rw [List.foldl_cons]
    refine fnd_one f v r _ (fun x hx => h1 x (List.mem_cons_of_mem _ hx)) ?_
    by_cases he : e.1 = f
    · rw [if_pos he]; exact .inl (h1 e List.mem_cons_self he)
    · rw [if_neg he]
      rcases h2 with h2 | h2
      · exact .inl h2
      · simp only [List.map_cons, List.mem_cons] at h2
        rcases h2 with h2 | h2
        · exact absurd h2.symm he
        · exact .inr h2
theorem fnd_all {sz st : Int} {es : List E7} (f : F5) (h : tv sz st es = true) : fnd es f = findT (sz, st, es) f := by
  rcases find_cases f h with ⟨h1, h2⟩ | ⟨e, he, rfl, h2⟩
  · rw [h2]; exact fnd_no f es (-1) h1
  · rw [h2]
    exact fnd_one e.1 e.2.1 es (-1) (fun x hx hxe => by rw [(tv_TV h).one hx he hxe]) (.inr (List.mem_map_of_mem he))
theorem drop_len (t : T3) (f : F5) : (dropT t f).2.2.length ≤ t.2.2.length := by
  unfold dropT
  split
  · exact List.length_filter_le _ _
  · exact Nat.zero_le _
set_option maxHeartbeats 4000000 in
set_option maxRecDepth 100000 in
theorem walkFindFlow (a : Option Addr) (len cap : Nat) (z : List Int) (w : World) (w0 : IsRow .u8 w a len cap z) :
    Calls Try.prog 6 #[.slice a len cap] w fun e w' => e = .returned (.bool true) ∧ Below w.heap.size w w' := by
  obtain ⟨hcl, hcap⟩ := w0.caps
  have HC := Lib.hid w0.code
  clear w0
  have hm := hcap
  unfold maxLen at hm
  by_cases hbig : (1048576 : Int) < (len : Int)
  · go_enter Try.func6, Try.ntmps6
    go_wp2
    go_ret
    exact ⟨rfl, Below.refl _ _⟩
  go_enter Try.func6, Try.ntmps6
  go_wp2_with fail
  refine (s_DrawFindFlow a len cap w hcl hcap HC.out).mono ?_
  rintro e w1 ⟨N, R, b, c1, es, f, rfl, hx, hcp, hnn, -, hI, hb⟩
  obtain ⟨n, hn⟩ : ∃ n, es.length = n := ⟨_, rfl⟩
  rw [hn] at hx hcp hnn ⊢
  obtain ⟨y0, y1, y2, y3, y4⟩ := f
  unfold fvv
  have HN := Lib.hid hn
  have HNN := Lib.hid hnn
  clear hn hnn
  have z1 := hb.size
  have D1 := Lib.hid (hb)
  have I1 := Lib.hid (hI)
  clear hb hI
  obtain ⟨w2, hw2, b2, sz2, x2_0, x2_1⟩ := headB w1 30 37 [.int .i64 N, .int .i64 R, .slice b n c1] [.int .i64 y0, .int .i64 y1, .int .i64 y2, .int .i64 y3, .int .i64 y4]
  have HW2 := Lib.hid hw2
  have z2 := (b2).size
  have D2 := Lib.hid (Below.step D1.out b2 (by omega))
  have I2 := Lib.hid (I1.out.below b2)
  clear D1 I1
  have T2 := Lib.hid (x2_0)
  have F2 := Lib.hid (x2_1)
  clear hw2 b2 x2_0 x2_1
  obtain ⟨M, hM⟩ : ∃ M, findT (N, R, es) (y0, y1, y2, y3, y4) = M := ⟨_, rfl⟩
  have HM := Lib.hid hM
  have hn20 : n ≤ 1048576 := by omega
  go_wp2_with fail
  rw [← HW2.out]
  refine (c_FindFlow N R (y0, y1, y2, y3, y4) b n c1 es _ HN.out hn20 I2.out).mono ?_
  rintro e w3 ⟨rfl, b3⟩
  have z3 := (b3).size
  have D3 := Lib.hid (Below.step D2.out b3 (by omega))
  have I3 := Lib.hid (I2.out.below b3)
  have T3 := Lib.hid (T2.out.keep b3)
  have F3 := Lib.hid (F2.out.keep b3)
  clear D2 I2 T2 F2
  clear b3
  rw [hM]
  obtain ⟨t_0, t_1, t_2, t_f⟩ := T3.out.three
  obtain ⟨f_0, f_1, f_2, f_3, f_4, f_f⟩ := F3.out.five
  go_wp2_with fail
  refine (s_FindFlow N R (y0, y1, y2, y3, y4) b n c1 es _ HN.out hn20 hcp I3.out).mono ?_
  rintro e w4 ⟨rfl, b4⟩
  clear t_0 t_1 t_2 t_f f_0 f_1 f_2 f_3 f_4 f_f
  have z4 := (b4).size
  have D4 := Lib.hid (Below.step D3.out b4 (by omega))
  have I4 := Lib.hid (I3.out.below b4)
  have T4 := Lib.hid (T3.out.keep b4)
  have F4 := Lib.hid (F3.out.keep b4)
  clear D3 I3 T3 F3
  clear b4
  rw [hM]
  clear hM
  obtain ⟨t_0, t_1, t_2, t_f⟩ := T4.out.three
  obtain ⟨f_0, f_1, f_2, f_3, f_4, f_f⟩ := F4.out.five
  go_wp2
  clear t_0 t_1 t_2 t_f f_0 f_1 f_2 f_3 f_4 f_f
  go_loopw [6, 7] (fun t i wr => ∃ (k : Nat), k ≤ n ∧ i = .int .i64 k ∧ t = .int .i64 (fnd (es.take k) (y0, y1, y2, y3, y4)) ∧ (k = 0 ∨ tv N R es = true) ∧ Below w4.heap.size w4 wr) (fun _ i _ => n - (intOf i).toNat)
  case atStart => exact ⟨0, Nat.zero_le _, rfl, rfl, .inl rfl, Below.refl _ _⟩
  case round =>
    obtain ⟨k, hk, rfl, rfl, hV, hG⟩ := hrel
    obtain ⟨w5, rfl⟩ : ∃ W, W = wr := ⟨_, rfl⟩
    have z5 := (hG).size
    have D5 := Lib.hid (Below.step D4.out hG (by omega))
    have I5 := Lib.hid (I4.out.below hG)
    have T5 := Lib.hid (T4.out.keep hG)
    have F5 := Lib.hid (F4.out.keep hG)
    have G5 := Lib.hid (hG)
    clear hG
    by_cases hlt : k < n
    · obtain ⟨bb, off, rfl, hbl, hc⟩ := I5.out.at HN.out hlt
      obtain ⟨t_0, t_1, t_2, t_f⟩ := T5.out.three
      obtain ⟨f_0, f_1, f_2, f_3, f_4, f_f⟩ := F5.out.five
      go_wp2_with fail
      refine (c_TableValid N R (some ⟨bb, off, none⟩) n c1 es _ HN.out hn20 I5.out).mono ?_
      rintro e w6 ⟨rfl, b6⟩
      clear t_0 t_1 t_2 t_f f_0 f_1 f_2 f_3 f_4 f_f
      have z6 := (b6).size
      have D6 := Lib.hid (Below.step D5.out b6 (by omega))
      have I6 := Lib.hid (I5.out.below b6)
      have T6 := Lib.hid (T5.out.keep b6)
      have F6 := Lib.hid (F5.out.keep b6)
      have G6 := Lib.hid (Below.step G5.out b6 (by omega))
      clear D5 I5 T5 F5 G5
      clear b6
      clear hc
      obtain ⟨_, _, hbo, _, hc⟩ := I6.out.at HN.out hlt
      injection hbo with hbo
      injection hbo with e1 e2 _
      subst e1 e2
      obtain ⟨q0, q1, q2, q3, q4, q5, q6⟩ := hc k hlt
      clear hc
      have HS := Lib.hid (fnd_step (f := (y0, y1, y2, y3, y4)) (k := k) (by rw [HN.out]; exact hlt))
      generalize hE : es.getD k e0 = E at *
      obtain ⟨⟨x0, x1, x2, x3, x4⟩, x5, x6⟩ := E
      clear hE
      dsimp only at q0 q1 q2 q3 q4 q5 q6
      cases htv : tv N R es
      · -- not valid: the loop ends at once
        have HFN : Hid (M = fnd (es.take k) (y0, y1, y2, y3, y4)) := Lib.hid (by
          rcases hV with rfl | h
          · rw [← HM.out, find_bad htv]; rfl
          · rw [htv] at h; cases h)
        clear q0 q1 q2 q3 q4 q5 q6 HS hV htv
        obtain ⟨t_0, t_1, t_2, t_f⟩ := T6.out.three
        obtain ⟨f_0, f_1, f_2, f_3, f_4, f_f⟩ := F6.out.five
        go_upto_region 13 with fail
        clear t_0 t_1 t_2 t_f f_0 f_1 f_2 f_3 f_4 f_f
        obtain ⟨dt, hdt⟩ : ∃ dt, dropT (N, R, es) (y0, y1, y2, y3, y4) = dt := ⟨_, rfl⟩
        have HDT := Lib.hid hdt
        have HDL : Hid (dt.2.2.length ≤ 1048576) := Lib.hid (by have h9 := drop_len (N, R, es) (y0, y1, y2, y3, y4); rw [hdt] at h9; have h8 := HN.out; simp only at h9; omega)
        clear hdt
        have hMF : M = fnd (es.take k) (y0, y1, y2, y3, y4) := HFN.out
        have hFD : findT (dt.1, dt.2.1, dt.2.2) (y0, y1, y2, y3, y4) = -1 := by rw [← HDT.out]; exact drop_gone _ _
        refine region_anyW _ 14 63 [49, 50, 51, 52, 53, 54, 55, 56, 57, 58, 59, 60, 61, 62] [(49, .val (.int .i64 M)), (50, .val (.int .i64 (fnd (es.take k) (y0, y1, y2, y3, y4)))), (51, .val (.bool true)), (52, .val (.bool true)), (53, .val (.agg #[.int .i64 N, .int .i64 R, .slice (some ⟨bb, off, none⟩) n c1])), (54, .val (.agg #[.int .i64 y0, .int .i64 y1, .int .i64 y2, .int .i64 y3, .int .i64 y4])), (55, .row w6.heap.size 69 7 (dt.2.2.length) (eCells dt.2.2) (fun s => .agg #[.int .i64 dt.1, .int .i64 dt.2.1, s])), (56, .val (.agg #[.int .i64 y0, .int .i64 y1, .int .i64 y2, .int .i64 y3, .int .i64 y4])), (57, .val (.int .i64 (findT (dt.1, dt.2.1, dt.2.2) (y0, y1, y2, y3, y4)))), (58, .val (.bool true)), (59, .val (.bool true)), (60, .val (.bool true)), (61, .val (.bool true)), (62, .val (.bool true))] rfl (by kernel_rfl) ?_ ?_
        · refine ⟨?_, ?_, ?_, ?_, ?_, ?_, ?_, ?_, ?_, ?_, ?_, ?_, ?_, ?_, trivial⟩
          · refine opW_free rfl rfl (op_val (d := 49) rfl (.int .i64 M) (fun fr9 wq hf hd hb => ⟨?_, ?_⟩) _)
            rotate_left
            · exact rfl
            have e5 : fr9.tmps.getD 5 undef = .int .i64 M := hf 5 (by kernel_rfl)
            exact (run_mv _ _ _ (.tmp 5) _ e5).1 rfl
          · refine opW_free rfl rfl (op_val (d := 50) rfl (.int .i64 (fnd (es.take k) (y0, y1, y2, y3, y4))) (fun fr9 wq hf hd hb => ⟨?_, ?_⟩) _)
            rotate_left
            · exact rfl
            have e6 : fr9.tmps.getD 6 undef = .int .i64 (fnd (es.take k) (y0, y1, y2, y3, y4)) := hf 6 (by kernel_rfl)
            exact (run_mv _ _ _ (.tmp 6) _ e6).1 rfl
          · refine opW_free rfl rfl (op_val (d := 51) rfl (.bool true) (fun fr9 wq hf hd hb => ⟨?_, ?_⟩) _)
            rotate_left
            · exact rfl
            have e49 : fr9.tmps.getD 49 undef = .int .i64 M := hd 49 (by kernel_rfl)
            have e50 : fr9.tmps.getD 50 undef = .int .i64 (fnd (es.take k) (y0, y1, y2, y3, y4)) := hd 50 (by kernel_rfl)
            simp [execOp, Act.eval, e49, e50, hMF, go_sem]
          · refine opW_free rfl rfl (op_val (d := 52) rfl (.bool true) (fun fr9 wq hf hd hb => ⟨?_, ?_⟩) _)
            rotate_left
            · exact rfl
            have e51 : fr9.tmps.getD 51 undef = .bool true := hd 51 (by kernel_rfl)
            exact (run_mv _ _ _ (.tmp 51) _ e51).1 rfl
          · refine opW_want (s := 52) rfl rfl rfl (by kernel_rfl) rfl (op_val (d := 53) rfl (.agg #[.int .i64 N, .int .i64 R, .slice (some ⟨bb, off, none⟩) n c1]) (fun fr9 wq hf hd hb => ⟨?_, ?_⟩) _)
            rotate_left
            · exact rfl
            have e3 : fr9.tmps.getD 3 undef = .pointer (some ⟨w1.heap.size, 0, none⟩) := hf 3 (by kernel_rfl)
            have hb9 := T6.out.keep hb
            have q0 : wq.cell? ⟨w1.heap.size, 0, none⟩ = some (.int .i64 N) := hb9.cell 0
            have q1 : wq.cell? ⟨w1.heap.size, 1, none⟩ = some (.int .i64 R) := hb9.cell 1
            have q2 : wq.cell? ⟨w1.heap.size, 2, none⟩ = some (.slice (some ⟨bb, off, none⟩) n c1) := hb9.cell 2
            simp [execOp, Act.eval, e3, q0, q1, q2, go_sem]
          · refine opW_want (s := 52) rfl rfl rfl (by kernel_rfl) rfl (op_val (d := 54) rfl (.agg #[.int .i64 y0, .int .i64 y1, .int .i64 y2, .int .i64 y3, .int .i64 y4]) (fun fr9 wq hf hd hb => ⟨?_, ?_⟩) _)
            rotate_left
            · exact rfl
            have e4 : fr9.tmps.getD 4 undef = .pointer (some ⟨(w1.heap.size + 1), 0, none⟩) := hf 4 (by kernel_rfl)
            have hb9 := F6.out.keep hb
            have q0 : wq.cell? ⟨(w1.heap.size + 1), 0, none⟩ = some (.int .i64 y0) := hb9.cell 0
            have q1 : wq.cell? ⟨(w1.heap.size + 1), 1, none⟩ = some (.int .i64 y1) := hb9.cell 1
            have q2 : wq.cell? ⟨(w1.heap.size + 1), 2, none⟩ = some (.int .i64 y2) := hb9.cell 2
            have q3 : wq.cell? ⟨(w1.heap.size + 1), 3, none⟩ = some (.int .i64 y3) := hb9.cell 3
            have q4 : wq.cell? ⟨(w1.heap.size + 1), 4, none⟩ = some (.int .i64 y4) := hb9.cell 4
            simp [execOp, Act.eval, e4, q0, q1, q2, q3, q4, go_sem]
          · refine opW_want (s := 52) rfl rfl rfl (by kernel_rfl) rfl ?_
            intro fr9 wq hf hd hb
            have e53 : fr9.tmps.getD 53 undef = .agg #[.int .i64 N, .int .i64 R, .slice (some ⟨bb, off, none⟩) n c1] := hd 53 (by kernel_rfl)
            have e54 : fr9.tmps.getD 54 undef = .agg #[.int .i64 y0, .int .i64 y1, .int .i64 y2, .int .i64 y3, .int .i64 y4] := hd 54 (by kernel_rfl)
            have hv9 : (#[Operand.tmp 53, Operand.tmp 54] : Array Operand).map fr9.eval = #[.agg #[.int .i64 N, .int .i64 R, .slice (some ⟨bb, off, none⟩) n c1], .agg #[.int .i64 y0, .int .i64 y1, .int .i64 y2, .int .i64 y3, .int .i64 y4]] := by simp only [List.map_toArray, List.map_cons, List.map_nil, Act.eval, e53, e54]
            refine ⟨55, rfl, op_call rfl (run_callL _ _ _ 43 _ _ _ rfl rfl hv9 (enters_of Try.func43 (by kernel_rfl) rfl)) ?_⟩
            rw [← HDT.out]
            refine (c_DropFlow N R (y0, y1, y2, y3, y4) (some ⟨bb, off, none⟩) n c1 es wq HN.out hn20 (I6.out.below hb) HNN.out).mono ?_
            rintro e w5 ⟨a5, c5, rfl, o5, g5⟩
            exact ⟨_, rfl, _, rfl, ⟨a5, c5, rfl, row_wider o5 hb.size⟩, grown_below g5⟩
          · refine opW_want (s := 52) rfl rfl rfl (by kernel_rfl) rfl (op_val (d := 56) rfl (.agg #[.int .i64 y0, .int .i64 y1, .int .i64 y2, .int .i64 y3, .int .i64 y4]) (fun fr9 wq hf hd hb => ⟨?_, ?_⟩) _)
            rotate_left
            · exact rfl
            have e4 : fr9.tmps.getD 4 undef = .pointer (some ⟨(w1.heap.size + 1), 0, none⟩) := hf 4 (by kernel_rfl)
            have hb9 := F6.out.keep hb
            have q0 : wq.cell? ⟨(w1.heap.size + 1), 0, none⟩ = some (.int .i64 y0) := hb9.cell 0
            have q1 : wq.cell? ⟨(w1.heap.size + 1), 1, none⟩ = some (.int .i64 y1) := hb9.cell 1
            have q2 : wq.cell? ⟨(w1.heap.size + 1), 2, none⟩ = some (.int .i64 y2) := hb9.cell 2
            have q3 : wq.cell? ⟨(w1.heap.size + 1), 3, none⟩ = some (.int .i64 y3) := hb9.cell 3
            have q4 : wq.cell? ⟨(w1.heap.size + 1), 4, none⟩ = some (.int .i64 y4) := hb9.cell 4
            simp [execOp, Act.eval, e4, q0, q1, q2, q3, q4, go_sem]
          · refine opW_want (s := 52) rfl rfl rfl (by kernel_rfl) rfl ?_
            intro fr9 wq hf hd hb
            obtain ⟨a55, c55, e55, o55⟩ : ∃ (a2 : Option Addr) (c2 : Nat), fr9.tmps.getD 55 undef = .agg #[.int .i64 dt.1, .int .i64 dt.2.1, .slice a2 (dt.2.2.length) c2] ∧ wq.ownsRow w6.heap.size 69 7 (.slice a2 (dt.2.2.length) c2) (dt.2.2.length) (eCells dt.2.2) := hd 55 (by kernel_rfl)
            have e56 : fr9.tmps.getD 56 undef = .agg #[.int .i64 y0, .int .i64 y1, .int .i64 y2, .int .i64 y3, .int .i64 y4] := hd 56 (by kernel_rfl)
            have hv9 : (#[Operand.tmp 55, Operand.tmp 56] : Array Operand).map fr9.eval = #[.agg #[.int .i64 dt.1, .int .i64 dt.2.1, .slice a55 (dt.2.2.length) c55], .agg #[.int .i64 y0, .int .i64 y1, .int .i64 y2, .int .i64 y3, .int .i64 y4]] := by simp only [List.map_toArray, List.map_cons, List.map_nil, Act.eval, e55, e56]
            refine ⟨57, rfl, op_call rfl (run_callL _ _ _ 41 _ _ _ rfl rfl hv9 (enters_of Try.func41 (by kernel_rfl) rfl)) ?_⟩
            refine (c_FindFlow dt.1 dt.2.1 (y0, y1, y2, y3, y4) a55 dt.2.2.length c55 dt.2.2 wq rfl HDL.out (EntRow.ents o55)).mono ?_
            rintro e w5 ⟨rfl, g5⟩
            exact ⟨_, rfl, _, rfl, rfl, g5⟩
          · refine opW_want (s := 52) rfl rfl rfl (by kernel_rfl) rfl (op_val (d := 58) rfl (.bool true) (fun fr9 wq hf hd hb => ⟨?_, ?_⟩) _)
            rotate_left
            · exact rfl
            have e57 : fr9.tmps.getD 57 undef = .int .i64 (findT (dt.1, dt.2.1, dt.2.2) (y0, y1, y2, y3, y4)) := hd 57 (by kernel_rfl)
            simp [execOp, Act.eval, e57, hFD, go_sem]
          · refine opW_free rfl rfl (op_val (d := 59) rfl (.bool true) (fun fr9 wq hf hd hb => ⟨?_, ?_⟩) _)
            rotate_left
            · exact rfl
            have e52 : fr9.tmps.getD 52 undef = .bool true := hd 52 (by kernel_rfl)
            have e58 : fr9.tmps.getD 58 undef = .bool true := hd 58 (by kernel_rfl)
            simp [execOp, Act.eval, e52, e58, go_sem]
          · refine opW_free rfl rfl (op_val (d := 60) rfl (.bool true) (fun fr9 wq hf hd hb => ⟨?_, ?_⟩) _)
            rotate_left
            · exact rfl
            have e59 : fr9.tmps.getD 59 undef = .bool true := hd 59 (by kernel_rfl)
            exact (run_mv _ _ _ (.tmp 59) _ e59).1 rfl
          · refine opW_want (s := 60) rfl rfl rfl (by kernel_rfl) rfl ?_
            intro fr9 wq hf hd hb
            have hv9 : (#[] : Array Operand).map fr9.eval = #[] := by simp only [List.map_toArray, List.map_nil]
            refine ⟨61, rfl, op_call rfl (run_callL _ _ _ 19 _ _ _ rfl rfl hv9 (enters_of Try.func19 (by kernel_rfl) rfl)) ?_⟩
            refine (c_alive wq).mono ?_
            rintro e w5 ⟨rfl, g5⟩
            exact ⟨_, rfl, _, rfl, rfl, g5⟩
          · refine opW_free rfl rfl (op_val (d := 62) rfl (.bool true) (fun fr9 wq hf hd hb => ⟨?_, ?_⟩) _)
            rotate_left
            · exact rfl
            have e60 : fr9.tmps.getD 60 undef = .bool true := hd 60 (by kernel_rfl)
            have e61 : fr9.tmps.getD 61 undef = .bool true := hd 61 (by kernel_rfl)
            simp [execOp, Act.eval, e60, e61, go_sem]
        · intro fq wq hf hbq
          have e49 : fq 49 = .int .i64 M := hf 49 (by decide)
          have e50 : fq 50 = .int .i64 (fnd (es.take k) (y0, y1, y2, y3, y4)) := hf 50 (by decide)
          have e51 : fq 51 = .bool true := hf 51 (by decide)
          have e52 : fq 52 = .bool true := hf 52 (by decide)
          have e53 : fq 53 = .agg #[.int .i64 N, .int .i64 R, .slice (some ⟨bb, off, none⟩) n c1] := hf 53 (by decide)
          have e54 : fq 54 = .agg #[.int .i64 y0, .int .i64 y1, .int .i64 y2, .int .i64 y3, .int .i64 y4] := hf 54 (by decide)
          obtain ⟨a55, c55, e55, o55⟩ : ∃ (a2 : Option Addr) (c2 : Nat), fq 55 = .agg #[.int .i64 dt.1, .int .i64 dt.2.1, .slice a2 (dt.2.2.length) c2] ∧ wq.ownsRow w6.heap.size 69 7 (.slice a2 (dt.2.2.length) c2) (dt.2.2.length) (eCells dt.2.2) := hf 55 (by decide)
          have e56 : fq 56 = .agg #[.int .i64 y0, .int .i64 y1, .int .i64 y2, .int .i64 y3, .int .i64 y4] := hf 56 (by decide)
          have e57 : fq 57 = .int .i64 (findT (dt.1, dt.2.1, dt.2.2) (y0, y1, y2, y3, y4)) := hf 57 (by decide)
          have e58 : fq 58 = .bool true := hf 58 (by decide)
          have e59 : fq 59 = .bool true := hf 59 (by decide)
          have e60 : fq 60 = .bool true := hf 60 (by decide)
          have e61 : fq 61 = .bool true := hf 61 (by decide)
          have e62 : fq 62 = .bool true := hf 62 (by decide)
          simp only [List.drop_succ_cons, List.drop_zero, putL, Act.put, List.setIfInBounds_toArray, List.set_cons_succ, List.set_cons_zero, e49, e50, e51, e52, e53, e54, e55, e56, e57, e58, e59, e60, e61, e62]
          clear hf e49 e50 e51 e52 e53 e54 e55 e56 e57 e58 e59 e60 e61 e62
          have QD := Lib.hid (Below.step D6.out hbq (by omega))
          clear hbq o55
          go_wp2
          go_ret
          exact ⟨rfl, QD.out⟩
      · clear hV
        obtain ⟨t_0, t_1, t_2, t_f⟩ := T6.out.three
        obtain ⟨f_0, f_1, f_2, f_3, f_4, f_f⟩ := F6.out.five
        by_cases hq : ((x0, x1, x2, x3, x4) : F5) = (y0, y1, y2, y3, y4)
        · have hqe : ∀ w, (binOp .eql 37 (.agg #[.int .i64 x0, .int .i64 x1, .int .i64 x2, .int .i64 x3, .int .i64 x4]) (.agg #[.int .i64 y0, .int .i64 y1, .int .i64 y2, .int .i64 y3, .int .i64 y4])).run Try.prog w = .ok (.bool true) w := eqlF_yes' hq
          have HQ := Lib.hid hq
          clear hq
          have HTV := Lib.hid htv
          clear htv
          go_wp2
          go_quiet (fail)
          go_wp2
          go_roundw
          case rel => exact ⟨k + 1, by omega, by go_num, by rw [HS.out, if_pos (by simpa using HQ.out)], .inr HTV.out, below_drewN G6.out _⟩
          case measure => simp [intOf]; omega
        · have hqe : ∀ w, (binOp .eql 37 (.agg #[.int .i64 x0, .int .i64 x1, .int .i64 x2, .int .i64 x3, .int .i64 x4]) (.agg #[.int .i64 y0, .int .i64 y1, .int .i64 y2, .int .i64 y3, .int .i64 y4])).run Try.prog w = .ok (.bool false) w := eqlF_no' hq
          have HQ := Lib.hid hq
          clear hq
          have HTV := Lib.hid htv
          clear htv
          go_wp2
          go_quiet (fail)
          go_wp2
          go_roundw
          case rel => exact ⟨k + 1, by omega, by go_num, by rw [HS.out, if_neg (by simpa using HQ.out)], .inr HTV.out, below_drewN G6.out _⟩
          case measure => simp [intOf]; omega
    · obtain rfl : n = k := by omega
      have HFN : Hid (M = fnd (es.take n) (y0, y1, y2, y3, y4)) := Lib.hid (by
        rw [List.take_of_length_le (by rw [HN.out]; exact Nat.le_refl _)]
        cases htv : tv N R es
        · rcases hV with rfl | h
          · rw [← HM.out, find_bad htv, List.length_eq_zero_iff.1 HN.out]; rfl
          · rw [htv] at h; cases h
        · rw [← HM.out, fnd_all _ htv])
      clear hV
      obtain ⟨t_0, t_1, t_2, t_f⟩ := T5.out.three
      obtain ⟨f_0, f_1, f_2, f_3, f_4, f_f⟩ := F5.out.five
      go_upto_region 13 with fail
      clear t_0 t_1 t_2 t_f f_0 f_1 f_2 f_3 f_4 f_f
      obtain ⟨dt, hdt⟩ : ∃ dt, dropT (N, R, es) (y0, y1, y2, y3, y4) = dt := ⟨_, rfl⟩
      have HDT := Lib.hid hdt
      have HDL : Hid (dt.2.2.length ≤ 1048576) := Lib.hid (by have h9 := drop_len (N, R, es) (y0, y1, y2, y3, y4); rw [hdt] at h9; have h8 := HN.out; simp only at h9; omega)
      clear hdt
      have hMF : M = fnd (es.take n) (y0, y1, y2, y3, y4) := HFN.out
      have hFD : findT (dt.1, dt.2.1, dt.2.2) (y0, y1, y2, y3, y4) = -1 := by rw [← HDT.out]; exact drop_gone _ _
      refine region_anyW _ 14 63 [49, 50, 51, 52, 53, 54, 55, 56, 57, 58, 59, 60, 61, 62] [(49, .val (.int .i64 M)), (50, .val (.int .i64 (fnd (es.take n) (y0, y1, y2, y3, y4)))), (51, .val (.bool true)), (52, .val (.bool true)), (53, .val (.agg #[.int .i64 N, .int .i64 R, .slice b n c1])), (54, .val (.agg #[.int .i64 y0, .int .i64 y1, .int .i64 y2, .int .i64 y3, .int .i64 y4])), (55, .row w5.heap.size 69 7 (dt.2.2.length) (eCells dt.2.2) (fun s => .agg #[.int .i64 dt.1, .int .i64 dt.2.1, s])), (56, .val (.agg #[.int .i64 y0, .int .i64 y1, .int .i64 y2, .int .i64 y3, .int .i64 y4])), (57, .val (.int .i64 (findT (dt.1, dt.2.1, dt.2.2) (y0, y1, y2, y3, y4)))), (58, .val (.bool true)), (59, .val (.bool true)), (60, .val (.bool true)), (61, .val (.bool true)), (62, .val (.bool true))] rfl (by kernel_rfl) ?_ ?_
      · refine ⟨?_, ?_, ?_, ?_, ?_, ?_, ?_, ?_, ?_, ?_, ?_, ?_, ?_, ?_, trivial⟩
        · refine opW_free rfl rfl (op_val (d := 49) rfl (.int .i64 M) (fun fr9 wq hf hd hb => ⟨?_, ?_⟩) _)
          rotate_left
          · exact rfl
          have e5 : fr9.tmps.getD 5 undef = .int .i64 M := hf 5 (by kernel_rfl)
          exact (run_mv _ _ _ (.tmp 5) _ e5).1 rfl
        · refine opW_free rfl rfl (op_val (d := 50) rfl (.int .i64 (fnd (es.take n) (y0, y1, y2, y3, y4))) (fun fr9 wq hf hd hb => ⟨?_, ?_⟩) _)
          rotate_left
          · exact rfl
          have e6 : fr9.tmps.getD 6 undef = .int .i64 (fnd (es.take n) (y0, y1, y2, y3, y4)) := hf 6 (by kernel_rfl)
          exact (run_mv _ _ _ (.tmp 6) _ e6).1 rfl
        · refine opW_free rfl rfl (op_val (d := 51) rfl (.bool true) (fun fr9 wq hf hd hb => ⟨?_, ?_⟩) _)
          rotate_left
          · exact rfl
          have e49 : fr9.tmps.getD 49 undef = .int .i64 M := hd 49 (by kernel_rfl)
          have e50 : fr9.tmps.getD 50 undef = .int .i64 (fnd (es.take n) (y0, y1, y2, y3, y4)) := hd 50 (by kernel_rfl)
          simp [execOp, Act.eval, e49, e50, hMF, go_sem]
        · refine opW_free rfl rfl (op_val (d := 52) rfl (.bool true) (fun fr9 wq hf hd hb => ⟨?_, ?_⟩) _)
          rotate_left
          · exact rfl
          have e51 : fr9.tmps.getD 51 undef = .bool true := hd 51 (by kernel_rfl)
          exact (run_mv _ _ _ (.tmp 51) _ e51).1 rfl
        · refine opW_want (s := 52) rfl rfl rfl (by kernel_rfl) rfl (op_val (d := 53) rfl (.agg #[.int .i64 N, .int .i64 R, .slice b n c1]) (fun fr9 wq hf hd hb => ⟨?_, ?_⟩) _)
          rotate_left
          · exact rfl
          have e3 : fr9.tmps.getD 3 undef = .pointer (some ⟨w1.heap.size, 0, none⟩) := hf 3 (by kernel_rfl)
          have hb9 := T5.out.keep hb
          have q0 : wq.cell? ⟨w1.heap.size, 0, none⟩ = some (.int .i64 N) := hb9.cell 0
          have q1 : wq.cell? ⟨w1.heap.size, 1, none⟩ = some (.int .i64 R) := hb9.cell 1
          have q2 : wq.cell? ⟨w1.heap.size, 2, none⟩ = some (.slice b n c1) := hb9.cell 2
          simp [execOp, Act.eval, e3, q0, q1, q2, go_sem]
        · refine opW_want (s := 52) rfl rfl rfl (by kernel_rfl) rfl (op_val (d := 54) rfl (.agg #[.int .i64 y0, .int .i64 y1, .int .i64 y2, .int .i64 y3, .int .i64 y4]) (fun fr9 wq hf hd hb => ⟨?_, ?_⟩) _)
          rotate_left
          · exact rfl
          have e4 : fr9.tmps.getD 4 undef = .pointer (some ⟨(w1.heap.size + 1), 0, none⟩) := hf 4 (by kernel_rfl)
          have hb9 := F5.out.keep hb
          have q0 : wq.cell? ⟨(w1.heap.size + 1), 0, none⟩ = some (.int .i64 y0) := hb9.cell 0
          have q1 : wq.cell? ⟨(w1.heap.size + 1), 1, none⟩ = some (.int .i64 y1) := hb9.cell 1
          have q2 : wq.cell? ⟨(w1.heap.size + 1), 2, none⟩ = some (.int .i64 y2) := hb9.cell 2
          have q3 : wq.cell? ⟨(w1.heap.size + 1), 3, none⟩ = some (.int .i64 y3) := hb9.cell 3
          have q4 : wq.cell? ⟨(w1.heap.size + 1), 4, none⟩ = some (.int .i64 y4) := hb9.cell 4
          simp [execOp, Act.eval, e4, q0, q1, q2, q3, q4, go_sem]
        · refine opW_want (s := 52) rfl rfl rfl (by kernel_rfl) rfl ?_
          intro fr9 wq hf hd hb
          have e53 : fr9.tmps.getD 53 undef = .agg #[.int .i64 N, .int .i64 R, .slice b n c1] := hd 53 (by kernel_rfl)
          have e54 : fr9.tmps.getD 54 undef = .agg #[.int .i64 y0, .int .i64 y1, .int .i64 y2, .int .i64 y3, .int .i64 y4] := hd 54 (by kernel_rfl)
          have hv9 : (#[Operand.tmp 53, Operand.tmp 54] : Array Operand).map fr9.eval = #[.agg #[.int .i64 N, .int .i64 R, .slice b n c1], .agg #[.int .i64 y0, .int .i64 y1, .int .i64 y2, .int .i64 y3, .int .i64 y4]] := by simp only [List.map_toArray, List.map_cons, List.map_nil, Act.eval, e53, e54]
          refine ⟨55, rfl, op_call rfl (run_callL _ _ _ 43 _ _ _ rfl rfl hv9 (enters_of Try.func43 (by kernel_rfl) rfl)) ?_⟩
          rw [← HDT.out]
          refine (c_DropFlow N R (y0, y1, y2, y3, y4) b n c1 es wq HN.out hn20 (I5.out.below hb) HNN.out).mono ?_
          rintro e w5 ⟨a5, c5, rfl, o5, g5⟩
          exact ⟨_, rfl, _, rfl, ⟨a5, c5, rfl, row_wider o5 hb.size⟩, grown_below g5⟩
        · refine opW_want (s := 52) rfl rfl rfl (by kernel_rfl) rfl (op_val (d := 56) rfl (.agg #[.int .i64 y0, .int .i64 y1, .int .i64 y2, .int .i64 y3, .int .i64 y4]) (fun fr9 wq hf hd hb => ⟨?_, ?_⟩) _)
          rotate_left
          · exact rfl
          have e4 : fr9.tmps.getD 4 undef = .pointer (some ⟨(w1.heap.size + 1), 0, none⟩) := hf 4 (by kernel_rfl)
          have hb9 := F5.out.keep hb
          have q0 : wq.cell? ⟨(w1.heap.size + 1), 0, none⟩ = some (.int .i64 y0) := hb9.cell 0
          have q1 : wq.cell? ⟨(w1.heap.size + 1), 1, none⟩ = some (.int .i64 y1) := hb9.cell 1
          have q2 : wq.cell? ⟨(w1.heap.size + 1), 2, none⟩ = some (.int .i64 y2) := hb9.cell 2
          have q3 : wq.cell? ⟨(w1.heap.size + 1), 3, none⟩ = some (.int .i64 y3) := hb9.cell 3
          have q4 : wq.cell? ⟨(w1.heap.size + 1), 4, none⟩ = some (.int .i64 y4) := hb9.cell 4
          simp [execOp, Act.eval, e4, q0, q1, q2, q3, q4, go_sem]
        · refine opW_want (s := 52) rfl rfl rfl (by kernel_rfl) rfl ?_
          intro fr9 wq hf hd hb
          obtain ⟨a55, c55, e55, o55⟩ : ∃ (a2 : Option Addr) (c2 : Nat), fr9.tmps.getD 55 undef = .agg #[.int .i64 dt.1, .int .i64 dt.2.1, .slice a2 (dt.2.2.length) c2] ∧ wq.ownsRow w5.heap.size 69 7 (.slice a2 (dt.2.2.length) c2) (dt.2.2.length) (eCells dt.2.2) := hd 55 (by kernel_rfl)
          have e56 : fr9.tmps.getD 56 undef = .agg #[.int .i64 y0, .int .i64 y1, .int .i64 y2, .int .i64 y3, .int .i64 y4] := hd 56 (by kernel_rfl)
          have hv9 : (#[Operand.tmp 55, Operand.tmp 56] : Array Operand).map fr9.eval = #[.agg #[.int .i64 dt.1, .int .i64 dt.2.1, .slice a55 (dt.2.2.length) c55], .agg #[.int .i64 y0, .int .i64 y1, .int .i64 y2, .int .i64 y3, .int .i64 y4]] := by simp only [List.map_toArray, List.map_cons, List.map_nil, Act.eval, e55, e56]
          refine ⟨57, rfl, op_call rfl (run_callL _ _ _ 41 _ _ _ rfl rfl hv9 (enters_of Try.func41 (by kernel_rfl) rfl)) ?_⟩
          refine (c_FindFlow dt.1 dt.2.1 (y0, y1, y2, y3, y4) a55 dt.2.2.length c55 dt.2.2 wq rfl HDL.out (EntRow.ents o55)).mono ?_
          rintro e w5 ⟨rfl, g5⟩
          exact ⟨_, rfl, _, rfl, rfl, g5⟩
        · refine opW_want (s := 52) rfl rfl rfl (by kernel_rfl) rfl (op_val (d := 58) rfl (.bool true) (fun fr9 wq hf hd hb => ⟨?_, ?_⟩) _)
          rotate_left
          · exact rfl
          have e57 : fr9.tmps.getD 57 undef = .int .i64 (findT (dt.1, dt.2.1, dt.2.2) (y0, y1, y2, y3, y4)) := hd 57 (by kernel_rfl)
          simp [execOp, Act.eval, e57, hFD, go_sem]
        · refine opW_free rfl rfl (op_val (d := 59) rfl (.bool true) (fun fr9 wq hf hd hb => ⟨?_, ?_⟩) _)
          rotate_left
          · exact rfl
          have e52 : fr9.tmps.getD 52 undef = .bool true := hd 52 (by kernel_rfl)
          have e58 : fr9.tmps.getD 58 undef = .bool true := hd 58 (by kernel_rfl)
          simp [execOp, Act.eval, e52, e58, go_sem]
        · refine opW_free rfl rfl (op_val (d := 60) rfl (.bool true) (fun fr9 wq hf hd hb => ⟨?_, ?_⟩) _)
          rotate_left
          · exact rfl
          have e59 : fr9.tmps.getD 59 undef = .bool true := hd 59 (by kernel_rfl)
          exact (run_mv _ _ _ (.tmp 59) _ e59).1 rfl
        · refine opW_want (s := 60) rfl rfl rfl (by kernel_rfl) rfl ?_
          intro fr9 wq hf hd hb
          have hv9 : (#[] : Array Operand).map fr9.eval = #[] := by simp only [List.map_toArray, List.map_nil]
          refine ⟨61, rfl, op_call rfl (run_callL _ _ _ 19 _ _ _ rfl rfl hv9 (enters_of Try.func19 (by kernel_rfl) rfl)) ?_⟩
          refine (c_alive wq).mono ?_
          rintro e w5 ⟨rfl, g5⟩
          exact ⟨_, rfl, _, rfl, rfl, g5⟩
        · refine opW_free rfl rfl (op_val (d := 62) rfl (.bool true) (fun fr9 wq hf hd hb => ⟨?_, ?_⟩) _)
          rotate_left
          · exact rfl
          have e60 : fr9.tmps.getD 60 undef = .bool true := hd 60 (by kernel_rfl)
          have e61 : fr9.tmps.getD 61 undef = .bool true := hd 61 (by kernel_rfl)
          simp [execOp, Act.eval, e60, e61, go_sem]
      · intro fq wq hf hbq
        have e49 : fq 49 = .int .i64 M := hf 49 (by decide)
        have e50 : fq 50 = .int .i64 (fnd (es.take n) (y0, y1, y2, y3, y4)) := hf 50 (by decide)
        have e51 : fq 51 = .bool true := hf 51 (by decide)
        have e52 : fq 52 = .bool true := hf 52 (by decide)
        have e53 : fq 53 = .agg #[.int .i64 N, .int .i64 R, .slice b n c1] := hf 53 (by decide)
        have e54 : fq 54 = .agg #[.int .i64 y0, .int .i64 y1, .int .i64 y2, .int .i64 y3, .int .i64 y4] := hf 54 (by decide)
        obtain ⟨a55, c55, e55, o55⟩ : ∃ (a2 : Option Addr) (c2 : Nat), fq 55 = .agg #[.int .i64 dt.1, .int .i64 dt.2.1, .slice a2 (dt.2.2.length) c2] ∧ wq.ownsRow w5.heap.size 69 7 (.slice a2 (dt.2.2.length) c2) (dt.2.2.length) (eCells dt.2.2) := hf 55 (by decide)
        have e56 : fq 56 = .agg #[.int .i64 y0, .int .i64 y1, .int .i64 y2, .int .i64 y3, .int .i64 y4] := hf 56 (by decide)
        have e57 : fq 57 = .int .i64 (findT (dt.1, dt.2.1, dt.2.2) (y0, y1, y2, y3, y4)) := hf 57 (by decide)
        have e58 : fq 58 = .bool true := hf 58 (by decide)
        have e59 : fq 59 = .bool true := hf 59 (by decide)
        have e60 : fq 60 = .bool true := hf 60 (by decide)
        have e61 : fq 61 = .bool true := hf 61 (by decide)
        have e62 : fq 62 = .bool true := hf 62 (by decide)
        simp only [List.drop_succ_cons, List.drop_zero, putL, Act.put, List.setIfInBounds_toArray, List.set_cons_succ, List.set_cons_zero, e49, e50, e51, e52, e53, e54, e55, e56, e57, e58, e59, e60, e61, e62]
        clear hf e49 e50 e51 e52 e53 e54 e55 e56 e57 e58 e59 e60 e61 e62
        have QD := Lib.hid (Below.step D5.out hbq (by omega))
        clear hbq o55
        go_wp2
        go_ret
        exact ⟨rfl, QD.out⟩
end Go.Proofs.Ytdkdfehlmphikaa
