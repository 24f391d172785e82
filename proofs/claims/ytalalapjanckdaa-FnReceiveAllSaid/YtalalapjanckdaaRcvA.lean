/- Plain facts on ReceiveAll, and the program's ReceiveAll. No condition but lists of at most 2^20 numbers. -/
import Derived.Test.YtalalapjanckdaaRcvE
namespace Go.Proofs.Ytalalapjanckdaa
open Go.RowKit
/-- One number more. -/
def rcvS (s : Int × Int × List Int × List Int) (x : Int) : Int × Int × List Int × List Int :=
  ((rcv s.1 s.2.1 s.2.2.1 x).1, (rcv s.1 s.2.1 s.2.2.1 x).2.1, (rcv s.1 s.2.1 s.2.2.1 x).2.2.1, s.2.2.2 ++ (rcv s.1 s.2.1 s.2.2.1 x).2.2.2.1)
def rcvK (N R : Int) (hs l : List Int) : Int × Int × List Int × List Int := l.foldl rcvS (N, R, hs, [])
/-- What a receiver becomes when numbers come, and what is handed on. -/
def rcvA (N R : Int) (hs l : List Int) : Int × Int × List Int × List Int :=
  if rv N R hs = false ∨ 40 < l.length then (0, 0, [], []) else rcvK N R hs l
theorem rcvK_succ {N R : Int} {hs l : List Int} {k : Nat} (h : k < l.length) : rcvK N R hs (l.take (k + 1)) = rcvS (rcvK N R hs (l.take k)) (l.getD k 0) := by
  rw [List.take_succ_eq_append_getElem h, rcvK, List.foldl_append]
  simp only [List.foldl_cons, List.foldl_nil]
  rw [getD_of h]; rfl
theorem rcvK_bd (N R : Int) {hs : List Int} (hh : hs.length ≤ 11) (l : List Int) : (rcvK N R hs l).2.2.1.length ≤ 11 ∧ (rcvK N R hs l).2.2.2.length ≤ 11 * l.length := by
  have : ∀ (l : List Int) (s : Int × Int × List Int × List Int), s.2.2.1.length ≤ 11 → (l.foldl rcvS s).2.2.1.length ≤ 11 ∧ (l.foldl rcvS s).2.2.2.length ≤ s.2.2.2.length + 11 * l.length := by
    intro l
    induction l with
    | nil => intro s hs; exact ⟨hs, by simp⟩
    | cons x t ih =>
      intro s hs
      obtain ⟨b1, b2⟩ := rcv_bd s.1 s.2.1 s.2.2.1 x
      obtain ⟨c1, c2⟩ := ih (rcvS s x) b1
      refine ⟨c1, Nat.le_trans c2 ?_⟩
      simp only [rcvS, List.length_append, List.length_cons]
      omega
  simpa [rcvK] using this l (N, R, hs, []) hh
theorem rcvA_bd (N R : Int) (hs l : List Int) : (rcvA N R hs l).2.2.1.length ≤ 11 ∧ (rcvA N R hs l).2.2.2.length ≤ 440 := by
  unfold rcvA
  split
  · simp
  · rename_i h
    have h1 : rv N R hs = true := by cases e : rv N R hs <;> simp_all
    obtain ⟨b1, b2⟩ := rcvK_bd N R (hs := hs) (by have := rv_small h1; omega) l
    exact ⟨b1, by omega⟩
/-- A struct of two numbers and a list, and another list, are handed back; both lists lie in blocks of their own. -/
def RetRA (w : World) (v : Int × Int × List Int × List Int) (e : Ending) (w' : World) : Prop :=
  ∃ (a : Option Addr) (c : Nat) (b : Option Addr) (d : Nat), e = .returned (.tuple #[.agg #[.int .i64 v.1, .int .i64 v.2.1, .slice a v.2.2.1.length c], .slice b v.2.2.2.length d]) ∧
    w'.ownsRow w.heap.size 3 1 (.slice a v.2.2.1.length c) v.2.2.1.length (v.2.2.1.map (Value.int .i64)) ∧ w'.ownsRow w.heap.size 3 1 (.slice b v.2.2.2.length d) v.2.2.2.length (v.2.2.2.map (Value.int .i64)) ∧
    (∀ k, (Value.slice a v.2.2.1.length c).ownBlock = some k → (Value.slice b v.2.2.2.length d).ownBlock ≠ some k) ∧ Below w.heap.size w w'
/-- What the loop keeps. -/
def RAll (N R : Int) (hs l : List Int) (g G : Nat) (w : World) (i v : Value) (wr : World) : Prop :=
  ∃ (k : Nat) (v1 v2 : Int) (v3 v4 : List Int) (a : Option Addr) (c : Nat) (b : Option Addr) (d : Nat), k ≤ l.length ∧ i = .int .i64 (k : Int) ∧ rcvK N R hs (l.take k) = (v1, v2, v3, v4) ∧ v = .slice b v4.length d ∧
    Box wr g 52 [.int .i64 v1, .int .i64 v2, .slice a v3.length c] ∧ wr.ownsRow G 3 1 (.slice a v3.length c) v3.length (v3.map (Value.int .i64)) ∧ wr.ownsRow G 3 1 (.slice b v4.length d) v4.length (v4.map (Value.int .i64)) ∧
    (∀ k, (Value.slice a v3.length c).ownBlock = some k → (Value.slice b v4.length d).ownBlock ≠ some k ∧ k ≠ g) ∧ (∀ k, (Value.slice b v4.length d).ownBlock = some k → k ≠ g) ∧ Below G w wr ∧ g < wr.heap.size ∧ G ≤ wr.heap.size
set_option maxHeartbeats 1600000 in
theorem c_RA_bad (N R : Int) (a : Option Addr) (n cap : Nat) (xs : List Int) (b : Option Addr) (m cap' : Nat) (l : List Int) (w : World) (hxs : xs.length = n) (hn : n ≤ 1048576) (h : Ints w a xs) (hl : l.length = m) (hm : m ≤ 1048576) (hbad : rv N R xs = false ∨ 40 < m) :
    Calls Try.prog 43 #[.agg #[.int .i64 N, .int .i64 R, .slice a n cap], .slice b m cap'] w (RetRA w (rcvA N R xs l)) := by
  have hv : rcvA N R xs l = (0, 0, [], []) := by rw [rcvA, if_pos (by rw [hl]; exact hbad)]
  rw [hv]
  obtain ⟨W, hW, hB, hz, h0, h1⟩ : ∃ W, W = ((w.alloc (.cells #[.int .i64 N, .int .i64 R, .slice a n cap] 52)).alloc (.cells #[.int .i64 0, .int .i64 0, .slice none 0 0] 52)) ∧
    Below w.heap.size w W ∧ W.heap.size = w.heap.size + 2 ∧ Box W w.heap.size 52 [.int .i64 N, .int .i64 R, .slice a n cap] ∧ Box W (w.heap.size + 1) 52 [.int .i64 0, .int .i64 0, .slice none 0 0] := headB w 52 52 _ _
  have HX := Lib.hid hxs
  have HW := Lib.hid hW
  have HB := Lib.hid hB
  have HZ := Lib.hid hz
  have H1 := Lib.hid h1
  have HI := Lib.hid (h.below hB)
  clear hxs hW hB hz h0 h1 h hv hl
  cases hv : rv N R xs
  · have HV := Lib.hid hv
    clear hv hbad
    go_enter Try.func43, Try.ntmps43
    go_wp2_with fail
    rw [← HW.out]
    refine (c_ReceiverValid N R a n cap xs _ HX.out hn HI.out).mono ?_; rintro e w1 ⟨rfl, b1⟩
    rw [HV.out]
    have B1 := Lib.hid b1
    have z1 := b1.size
    rw [HZ.out] at z1
    obtain ⟨y0, y1, y2, fy⟩ := (H1.out.keep b1).three
    clear b1
    go_wp2
    have hb := HB.out.trans (B1.out.mono (by rw [HZ.out]; omega))
    refine bodyPost_ret (v := .tuple #[.agg #[.int .i64 0, .int .i64 0, .slice none 0 0], .slice none 0 0]) (by simp [results, Try.results43, go_sem, y0, y1, y2]) rfl ?_
    exact ⟨none, 0, none, 0, rfl, row_nil _ _ _ _, row_nil _ _ _ _, fun k hk => by simp [Value.ownBlock] at hk, by go_grown⟩
  · have hbig : (40 : Int) < (m : Int) := by
      rcases hbad with h | h
      · rw [hv] at h; cases h
      · omega
    have HV := Lib.hid hv
    clear hv hbad
    go_enter Try.func43, Try.ntmps43
    go_wp2_with fail
    rw [← HW.out]
    refine (c_ReceiverValid N R a n cap xs _ HX.out hn HI.out).mono ?_; rintro e w1 ⟨rfl, b1⟩
    rw [HV.out]
    have B1 := Lib.hid b1
    have z1 := b1.size
    rw [HZ.out] at z1
    obtain ⟨y0, y1, y2, fy⟩ := (H1.out.keep b1).three
    clear b1
    go_wp2
    have hb := HB.out.trans (B1.out.mono (by rw [HZ.out]; omega))
    refine bodyPost_ret (v := .tuple #[.agg #[.int .i64 0, .int .i64 0, .slice none 0 0], .slice none 0 0]) (by simp [results, Try.results43, go_sem, y0, y1, y2]) rfl ?_
    exact ⟨none, 0, none, 0, rfl, row_nil _ _ _ _, row_nil _ _ _ _, fun k hk => by simp [Value.ownBlock] at hk, by go_grown⟩
set_option maxHeartbeats 3200000 in
theorem c_RA_good (N R : Int) (a : Option Addr) (n cap : Nat) (xs : List Int) (b : Option Addr) (m cap' : Nat) (l : List Int) (w : World) (hxs : xs.length = n) (hn : n ≤ 1048576) (h : Ints w a xs) (ha : a = none → n = 0 ∧ cap = 0) (hl : l.length = m) (hj : Ints w b l) (hv : rv N R xs = true) (hm : m ≤ 40) :
    Calls Try.prog 43 #[.agg #[.int .i64 N, .int .i64 R, .slice a n cap], .slice b m cap'] w (RetRA w (rcvK N R xs l)) := by
  have hsm := rv_small hv
  obtain ⟨W, hW, hB, hz, h0, h1⟩ : ∃ W, W = ((w.alloc (.cells #[.int .i64 N, .int .i64 R, .slice a n cap] 52)).alloc (.cells #[.int .i64 0, .int .i64 0, .slice none 0 0] 52)) ∧
    Below w.heap.size w W ∧ W.heap.size = w.heap.size + 2 ∧ Box W w.heap.size 52 [.int .i64 N, .int .i64 R, .slice a n cap] ∧ Box W (w.heap.size + 1) 52 [.int .i64 0, .int .i64 0, .slice none 0 0] := headB w 52 52 _ _
  have HX := Lib.hid hxs
  have HW := Lib.hid hW
  have HB := Lib.hid hB
  have HZ := Lib.hid hz
  have H0 := Lib.hid h0
  have H1 := Lib.hid h1
  have HI := Lib.hid (h.below hB)
  have HJ := Lib.hid hj
  have HL := Lib.hid hl
  have HA := Lib.hid ha
  have HV := Lib.hid hv
  have HS : Hid (xs.length ≤ 10) := Lib.hid hsm
  have hm' : ¬ ((40 : Int) < (m : Int)) := by omega
  clear hxs hW hB hz h0 h1 h hv hl hj ha hsm
  go_enter Try.func43, Try.ntmps43
  go_wp2_with fail
  rw [← HW.out]
  refine (c_ReceiverValid N R a n cap xs _ HX.out hn HI.out).mono ?_; rintro e w1 ⟨rfl, b1⟩
  rw [HV.out]
  have B1 := Lib.hid (HB.out.trans (b1.mono (by rw [HZ.out]; omega)))
  have z1 := b1.size
  rw [HZ.out] at z1
  have P1 := Lib.hid (H0.out.keep b1)
  have Q1 := Lib.hid (H1.out.keep b1)
  have I1 := Lib.hid (HI.out.below b1)
  obtain ⟨x0, x1, x2, fx⟩ := P1.out.three
  clear b1
  go_wp2_with fail
  refine (c_cloneR N R a n cap xs _ HX.out (by omega) I1.out HA.out).mono ?_; rintro e w2 ⟨a', c', rfl, o2, g2⟩
  rw [HX.out] at o2 ⊢
  have G2 := grown_below g2
  have z2 := G2.size
  obtain ⟨w3, hw3, hb3, hz3, hx3⟩ : ∃ W, W = w2.alloc (.cells #[.int .i64 N, .int .i64 R, .slice a' n c'] 52) ∧ Below w2.heap.size w2 W ∧ W.heap.size = w2.heap.size + 1 ∧ Box W w2.heap.size 52 [.int .i64 N, .int .i64 R, .slice a' n c'] := head1 w2 52 _
  have HW3 := Lib.hid hw3
  have O3 := Lib.hid (row_below o2 hb3)
  have L3 := Lib.hid (fun k hk => (o2.lt k hk))
  have B3 := Lib.hid ((B1.out.trans (G2.mono (by omega))).trans (hb3.mono (by omega)))
  have Q3 := Lib.hid ((Q1.out.keep G2).keep hb3)
  have X3 := Lib.hid hx3
  have HZ3 := Lib.hid hz3
  have z3 : w2.heap.size + 1 ≤ w3.heap.size := by omega
  clear o2 g2 G2 hw3 hb3 hx3 hz3 x0 x1 x2 fx
  go_upto_region 5 with fail
  rw [← HW3.out]
  go_wp2_with fail
  go_loopw [7, 26] (fun v i wr => RAll N R xs l w2.heap.size (w.heap.size + 2) w3 i v wr) (fun _ i _ => m - (intOf i).toNat)
  case atStart =>
    refine ⟨0, N, R, xs, [], a', c', none, 0, Nat.zero_le _, rfl, rfl, rfl, ?_, ?_, row_nil _ _ _ _, fun k hk => ⟨by simp [Value.ownBlock], ?_⟩, fun k hk => by simp [Value.ownBlock] at hk, Below.refl _ _, by omega, by omega⟩
    · rw [HX.out]; exact X3.out
    · rw [HX.out]; exact row_wider O3.out (by omega)
    · rw [HX.out] at hk; have := (L3.out k hk).2; omega
  case round =>
    obtain ⟨k, v1, v2, v3, v4, av, cv, bv, dv, hk, rfl, hst, rfl, hbx, hr3, hr4, hsep, hsg, hB, hg, hG⟩ := hrel
    have hbd := rcvK_bd N R (hs := xs) (by have := HS.out; omega) (l.take k)
    rw [hst, List.length_take] at hbd
    obtain ⟨hb3, hb4⟩ := hbd
    simp only at hb3 hb4
    rw [HL.out] at hk
    have hb4' : v4.length ≤ 440 := by omega
    have HT := Lib.hid hst
    have BX := Lib.hid hbx
    have R3 := Lib.hid hr3
    have R4 := Lib.hid hr4
    have SP := Lib.hid hsep
    have SG := Lib.hid hsg
    have BR : Hid (Below w.heap.size w wr) := Lib.hid (B3.out.trans (hB.mono (by omega)))
    have BG := Lib.hid hB
    have zr := hB.size
    clear hst hbx hr3 hr4 hsep hsg hB hb4
    by_cases hlt : k < m
    · obtain ⟨p1, off1, rfl, hp1, hcc⟩ := (HJ.out.below BR.out).at HL.out hlt
      have c0 := hcc k hlt
      obtain ⟨x, hx⟩ : ∃ x, l.getD k 0 = x := ⟨_, rfl⟩
      rw [hx] at c0
      have HXk := Lib.hid hx
      obtain ⟨⟨u1, u2, u3, u4, u5⟩, hu⟩ : ∃ u, rcv v1 v2 v3 x = u := ⟨_, rfl⟩
      have hub := rcv_bd v1 v2 v3 x
      rw [hu] at hub
      obtain ⟨hu3, hu4⟩ := hub
      simp only at hu3 hu4
      have HU := Lib.hid hu
      have HUL : Hid ((u4.map (Value.int .i64)).length = u4.length * 1) := Lib.hid (by simp)
      obtain ⟨x0, x1, x2, fx⟩ := BX.out.three
      clear hcc hx hu
      go_wp2_with fail
      refine (c_Rcv_v HU.out av v3.length cv wr rfl (by omega) (own_ints R3.out).1 (own_none R3.out)).mono ?_; rintro e w5 ⟨a5, c5, b5, d5, rfl, o5, p5, s5, g5⟩
      have z5 := g5.size
      have O5 := Lib.hid o5
      have P5 := Lib.hid p5
      have S5 := Lib.hid s5
      have L5 := Lib.hid (fun k hk => o5.lt k hk)
      have M5 := Lib.hid (fun k hk => p5.lt k hk)
      have BX5 := Lib.hid (BX.out.keep g5)
      have R45 := Lib.hid (row_below R4.out g5)
      have L4 := Lib.hid (fun k hk => R4.out.lt k hk)
      have B5 := Lib.hid (BG.out.trans (g5.mono (by omega)))
      clear o5 p5 s5 g5 x0 x1 x2 fx
      obtain ⟨x0, x1, x2, fx⟩ := BX5.out.three
      obtain ⟨w7, hw7⟩ : ∃ W, W = (((w5.setCell ⟨w2.heap.size, 0, none⟩ (.int .i64 u1)).setCell ⟨w2.heap.size, 1, none⟩ (.int .i64 u2)).setCell ⟨w2.heap.size, 2, none⟩ (.slice a5 u3.length c5)).alloc (.cells #[.int .i64 u1, .int .i64 u2, .slice a5 u3.length c5] 52) := ⟨_, rfl⟩
      have hne3 : (Value.slice a5 u3.length c5).ownBlock ≠ some w2.heap.size := fun e => by have := (L5.out _ e).1; omega
      have hne4 : (Value.slice b5 u4.length d5).ownBlock ≠ some w2.heap.size := fun e => by have := (M5.out _ e).1; omega
      have hne5 : (Value.slice bv v4.length dv).ownBlock ≠ some w2.heap.size := fun e => SG.out _ e rfl
      have O7 : Hid (w7.ownsRow (w.heap.size + 2) 3 1 (.slice a5 u3.length c5) u3.length (u3.map (Value.int .i64))) := Lib.hid (by rw [hw7]; exact (row_set (row_set (row_set (row_wider O5.out (by omega)) _ _ hne3) _ _ hne3) _ _ hne3).alloc _)
      have P7 : Hid (w7.ownsRow (w.heap.size + 2) 3 1 (.slice b5 u4.length d5) u4.length (u4.map (Value.int .i64))) := Lib.hid (by rw [hw7]; exact (row_set (row_set (row_set (row_wider P5.out (by omega)) _ _ hne4) _ _ hne4) _ _ hne4).alloc _)
      have R47 : Hid (w7.ownsRow (w.heap.size + 2) 3 1 (.slice bv v4.length dv) v4.length (v4.map (Value.int .i64))) := Lib.hid (by rw [hw7]; exact (row_set (row_set (row_set R45.out _ _ hne5) _ _ hne5) _ _ hne5).alloc _)
      have BX7 : Hid (Box w7 w2.heap.size 52 [.int .i64 u1, .int .i64 u2, .slice a5 u3.length c5]) := Lib.hid (by rw [hw7]; exact (((BX5.out.set 0 _).set 1 _).set 2 _).alloc _)
      have B7 : Hid (Below (w.heap.size + 2) w3 w7) := Lib.hid (by rw [hw7]; exact (((B5.out.setCell (by simp; omega) _).setCell (by simp; omega) _).setCell (by simp; omega) _).alloc (by simp; omega) _)
      have z7 : w5.heap.size + 1 ≤ w7.heap.size := by rw [hw7]; simp
      have HW7 := Lib.hid hw7
      clear hw7 hne3 hne4 hne5
      have l5 : w2.heap.size < w5.heap.size := by omega
      go_upto_region 10 with fail
      rw [← HW7.out]
      clear x0 x1 x2 fx
      go_wp2_with (at_builtin; refine wpl_appA _ rfl elemI (.tmp 38) (.tmp 39) rfl (w.heap.size + 2) (.slice bv v4.length dv) v4.length (v4.map (Value.int .i64)) rfl R47.out b5 u4.length d5 (u4.map (Value.int .i64)) rfl (row_vals P7.out) HUL.out (ints_one _) (own_none P7.out) (by omega) (by omega) (v4.length + u4.length) rfl ((v4 ++ u4).map (Value.int .i64)) (by rw [List.map_append]) ?_)
      intro b8 d8 w8 hown hgrow hat
      have O8 := Lib.hid hown
      have T8 := Lib.hid hat
      have G8 := Lib.hid hgrow
      clear hown hgrow hat
      go_wp2
      go_roundw
      case rel =>
        have zl : w7.heap.size ≤ w8.heap.size := G8.out.size
        have hsame : rcvK N R xs (l.take (k + 1)) = (u1, u2, u3, v4 ++ u4) := by
          rw [rcvK_succ (by rw [HL.out]; exact hlt), HT.out, HXk.out]
          simp only [rcvS, HU.out]
        have hbk : ∀ q, (Value.slice b8 (v4.length + u4.length) d8).ownBlock = some q → (Value.slice bv v4.length dv).ownBlock = some q ∨ q = w7.heap.size := fun q hq => by
          rcases T8.out with h | h
          · exact .inl (h.symm.trans hq)
          · rw [h] at hq; injection hq with hq; exact .inr hq.symm
        refine ⟨k + 1, u1, u2, u3, v4 ++ u4, a5, c5, b8, d8, by rw [HL.out]; omega, by go_num, hsame, by rw [List.length_append], ?_, ?_, by rw [List.length_append, List.map_append]; exact O8.out, ?_, ?_, ?_, by omega, by omega⟩
        · exact (G8.out.block _ BX7.out.lt (fun e => SG.out _ e.symm rfl)).trans BX7.out
        · exact row_kept O7.out G8.out (fun q hq h => by have := (L5.out q hq).1; have := (L4.out q h).2; omega)
        · intro q hq
          have h1 := L5.out q hq
          refine ⟨fun e => ?_, by omega⟩
          rw [List.length_append] at e
          rcases hbk q e with h | h
          · have := (L4.out q h).2; omega
          · omega
        · intro q hq
          rw [List.length_append] at hq
          rcases hbk q hq with h | h
          · exact SG.out q h
          · omega
        · exact B7.out.grown G8.out (by omega) (fun q hq => (L4.out q hq).1)
      case measure => simp [intOf]; omega
    · obtain rfl : k = m := by omega
      have QR := Lib.hid (Q3.out.below BG.out (by omega))
      obtain ⟨x0, x1, x2, fx⟩ := BX.out.three
      obtain ⟨y0, y1, y2, fy⟩ := QR.out.three
      go_wp2
      have hb := BR.out
      have hne3 : (Value.slice av v3.length cv).ownBlock ≠ some (w.heap.size + 1) := fun e => by have := (R3.out.lt _ e).1; omega
      have hne4 : (Value.slice bv v4.length dv).ownBlock ≠ some (w.heap.size + 1) := fun e => by have := (R4.out.lt _ e).1; omega
      refine bodyPost_ret (v := .tuple #[.agg #[.int .i64 v1, .int .i64 v2, .slice av v3.length cv], .slice bv v4.length dv]) (by simp [results, Try.results43, go_sem, y0, y1, y2]) rfl ?_
      have hT := HT.out
      rw [List.take_of_length_le (by rw [HL.out]; exact Nat.le_refl _)] at hT
      rw [hT]
      exact ⟨av, cv, bv, dv, rfl, row_set (row_set (row_set (row_wider R3.out (by omega)) _ _ hne3) _ _ hne3) _ _ hne3, row_set (row_set (row_set (row_wider R4.out (by omega)) _ _ hne4) _ _ hne4) _ _ hne4, fun q hq => (SP.out q hq).1, by go_grown⟩
theorem c_ReceiveAll (N R : Int) (a : Option Addr) (n cap : Nat) (xs : List Int) (b : Option Addr) (m cap' : Nat) (l : List Int) (w : World) (hxs : xs.length = n) (hn : n ≤ 1048576) (h : Ints w a xs) (ha : a = none → n = 0 ∧ cap = 0) (hl : l.length = m) (hm : m ≤ 1048576) (hj : Ints w b l) :
    Calls Try.prog 43 #[.agg #[.int .i64 N, .int .i64 R, .slice a n cap], .slice b m cap'] w (RetRA w (rcvA N R xs l)) := by
  by_cases hbad : rv N R xs = false ∨ 40 < m
  · exact c_RA_bad N R a n cap xs b m cap' l w hxs hn h hl hm hbad
  · have hv : rv N R xs = true := by cases e : rv N R xs <;> simp_all
    rw [rcvA, if_neg (by rw [hl]; exact hbad)]
    exact c_RA_good N R a n cap xs b m cap' l w hxs hn h ha hl hj hv (by omega)
end Go.Proofs.Ytalalapjanckdaa
