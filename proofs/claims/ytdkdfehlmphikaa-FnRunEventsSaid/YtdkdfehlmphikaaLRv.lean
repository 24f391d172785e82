/- The walk of the law RunEvents: it answers true whatever bytes come in. No condition. -/
import Derived.Test.YtdkdfehlmphikaaDEv
import Derived.Test.YtdkdfehlmphikaaRes
import Derived.Test.YtdkdfehlmphikaaSame
import Derived.Test.YtdkdfehlmphikaaMG
namespace Go.Proofs.Ytdkdfehlmphikaa
open Go.RowKit
theorem c_Run_w {hs : List H3} {sz st : Int} {vs : List V6} {v1 v2 : Int} {v3 : List E7} {v4 : List Int} {vb : Bool} (hv : runT hs sz st vs = (v4, (v1, v2, v3), vb)) (p : Option Addr) (pn pc : Nat) (a : Option Addr) (n cap : Nat) (w : World) (hps : hs.length = pn) (hpn : pn ≤ 1048576) (hP : Hosts w p hs) (hxs : vs.length = n) (hn : n ≤ 1048576) (hE : Evs w a vs) :
    Calls Try.prog 15 #[.slice p pn pc, .int .i64 sz, .int .i64 st, .slice a n cap] w fun e w' => ∃ (a : Option Addr) (c : Nat) (b : Option Addr) (d : Nat), e = .returned (.tuple #[.slice a v4.length c, .agg #[.int .i64 v1, .int .i64 v2, .slice b v3.length d], .bool vb]) ∧ Ints w' a v4 ∧ Ents w' b v3 ∧ Below w.heap.size w w' := by
  refine (c_RunEvents p pn pc hs sz st a n cap vs w hps hpn hP hxs hn hE).mono ?_
  rintro e w' ⟨b, d, a, c, h1, h2, h3, h4⟩
  rw [hv] at h1 h2 h3
  exact ⟨b, d, a, c, h1, (row_vals h2).ints, EntRow.ents h3, grown_below h4⟩
theorem s_Run_w {hs : List H3} {sz st : Int} {vs : List V6} {v1 v2 : Int} {v3 : List E7} {v4 : List Int} {vb : Bool} (hv : runT hs sz st vs = (v4, (v1, v2, v3), vb)) (p : Option Addr) (pn pc : Nat) (a : Option Addr) (n cap : Nat) (w : World) (hps : hs.length = pn) (hpn : pn ≤ 1048576) (hP : Hosts w p hs) (hxs : vs.length = n) (hn : n ≤ 1048576) (hE : Evs w a vs) :
    Calls Try.prog 16 #[.slice p pn pc, .int .i64 sz, .int .i64 st, .slice a n cap] w fun e w' => ∃ (a : Option Addr) (c : Nat) (b : Option Addr) (d : Nat), e = .returned (.tuple #[.slice a v4.length c, .agg #[.int .i64 v1, .int .i64 v2, .slice b v3.length d], .bool vb]) ∧ Ints w' a v4 ∧ Ents w' b v3 ∧ Below w.heap.size w w' := by
  refine (s_RunEvents p pn pc hs sz st a n cap vs w hps hpn hP hxs hn hE).mono ?_
  rintro e w' ⟨b, d, a, c, h1, h2, h3, h4⟩
  rw [hv] at h1 h2 h3
  exact ⟨b, d, a, c, h1, (row_vals h2).ints, EntRow.ents h3, grown_below h4⟩
theorem run_bd (hs : List H3) (sz st : Int) (vs : List V6) : (runT hs sz st vs).2.1.2.2.length ≤ 40 ∧ (runT hs sz st vs).1.length ≤ 40 := by
  cases h : runB hs sz st vs
  · rw [run_no h]; exact ⟨Nat.zero_le _, Nat.zero_le _⟩
  · rw [run_yes h]
    have := run_tab (d := (runK hs sz st vs).1) (xs := (runK hs sz st vs).2) h (Nat.le_refl _) (run_all hs sz st vs)
    simp only [runB, Bool.and_eq_true] at h
    have := (ev_EV h.2).room
    dsimp only
    omega
theorem Ints.at_some {w : World} {b off j : Nat} {xs : List Int} (h : Ints w (some ⟨b, off, none⟩) xs) (hj : j < xs.length) : w.cell? ⟨b, off + j, none⟩ = some (.int .i64 (xs.getD j 0)) := by
  obtain ⟨b', off', he, _, hc⟩ := Ints.at h rfl hj
  injection he with he
  injection he with h1 h2
  subst h1 h2
  exact hc j hj
theorem Evs.at_some {w : World} {b off n j : Nat} {vs : List V6} (h : Evs w (some ⟨b, off, none⟩) vs) (hl : vs.length = n) (hj : j < n) : EvAt w b (off + j * 6) (vs.getD j v0) := by
  obtain ⟨b', off', he, _, hc⟩ := h.at hl hj
  injection he with he
  injection he with h1 h2
  subst h1 h2
  exact hc j hj
set_option maxHeartbeats 4000000 in
set_option maxRecDepth 100000 in
theorem walkRunEvents (a : Option Addr) (len cap : Nat) (z : List Int) (w : World) (w0 : IsRow .u8 w a len cap z) :
    Calls Try.prog 3 #[.slice a len cap] w fun e w' => e = .returned (.bool true) ∧ Below w.heap.size w w' := by
  obtain ⟨hcl, hcap⟩ := w0.caps
  have HC := Lib.hid w0.code
  clear w0
  have hm := hcap
  unfold maxLen at hm
  by_cases hbig : (1048576 : Int) < (len : Int)
  · go_enter Try.func3, Try.ntmps3
    go_wp2
    go_ret
    exact ⟨rfl, Below.refl _ _⟩
  go_enter Try.func3, Try.ntmps3
  go_wp2_with fail
  refine (s_DrawRunEvents a len cap w hcl hcap HC.out).mono ?_
  rintro e w1 ⟨p, pc, hs, sz, st, ea, c1, vs, rfl, hh7, h41, hvc, hPH, hE, hb, s1, s2, s3, s4⟩
  obtain ⟨n, hn⟩ : ∃ n, vs.length = n := ⟨_, rfl⟩
  obtain ⟨pn, hpn⟩ : ∃ pn, hs.length = pn := ⟨_, rfl⟩
  rw [hn] at h41 hvc ⊢
  rw [hpn] at hh7 ⊢
  have HN := Lib.hid hn
  have HPN := Lib.hid hpn
  clear hn hpn
  obtain ⟨⟨v4, ⟨v1, v2, v3⟩, vb⟩, hd⟩ : ∃ d, runT hs sz st vs = d := ⟨_, rfl⟩
  have hbd := run_bd hs sz st vs
  rw [hd] at hbd
  have hn20 : n ≤ 1048576 := by omega
  have hp20 : pn ≤ 1048576 := by omega
  have HDL : Hid (v3.length ≤ 1048576) := Lib.hid (Nat.le_trans hbd.1 (by omega))
  have h4l := hbd.2
  dsimp only at h4l
  have H4L : Hid (v4.length ≤ 1048576) := Lib.hid (by omega)
  have HDR := Lib.hid hd
  clear hd hbd
  have zz1 := hb.size
  have D1 := Lib.hid (hb)
  have E1 := Lib.hid (hE)
  have H1 := Lib.hid (hPH)
  clear hb hE hPH
  go_wp2_with fail
  refine (c_Run_w HDR.out (some p) pn pc (some ea) n c1 _ HPN.out hp20 H1.out HN.out hn20 E1.out).mono ?_
  rintro e w2 ⟨a2, c2, t2, d2, rfl, i2, o2, b2⟩
  have zz2 := (b2).size
  have D2 := Lib.hid (Below.step D1.out b2 (by omega))
  have E2 := Lib.hid (E1.out.below b2)
  have H2 := Lib.hid (H1.out.below b2)
  clear D1 E1 H1
  have X2 := Lib.hid (i2)
  have XT2 := Lib.hid (o2)
  clear b2 i2 o2
  obtain ⟨w3, hw3, b3, sz3, x3_0⟩ := head1 w2 30 [.int .i64 v1, .int .i64 v2, .slice t2 v3.length d2]
  have HW3 := Lib.hid hw3
  have zz3 := (b3).size
  have D3 := Lib.hid (Below.step D2.out b3 (by omega))
  have E3 := Lib.hid (E2.out.below b3)
  have H3 := Lib.hid (H2.out.below b3)
  have X3 := Lib.hid (X2.out.below b3)
  have XT3 := Lib.hid (XT2.out.below b3)
  clear D2 E2 H2 X2 XT2
  have B3 := Lib.hid (x3_0)
  clear hw3 b3 x3_0
  go_upto_region 5 with fail
  rw [← HW3.out]
  go_wp2_with fail
  refine (s_Run_w HDR.out (some p) pn pc (some ea) n c1 _ HPN.out hp20 H3.out HN.out hn20 E3.out).mono ?_
  rintro e w4 ⟨a4, c4, t4, d4, rfl, i4, o4, b4⟩
  have zz4 := (b4).size
  have D4 := Lib.hid (Below.step D3.out b4 (by omega))
  have E4 := Lib.hid (E3.out.below b4)
  have H4 := Lib.hid (H3.out.below b4)
  have X4 := Lib.hid (X3.out.below b4)
  have XT4 := Lib.hid (XT3.out.below b4)
  have B4 := Lib.hid (B3.out.keep b4)
  clear D3 E3 H3 X3 XT3 B3
  have Y4 := Lib.hid (i4)
  have YT4 := Lib.hid (o4)
  clear b4 i4 o4
  obtain ⟨w5, hw5, b5, sz5, x5_0⟩ := head1 w4 30 [.int .i64 v1, .int .i64 v2, .slice t4 v3.length d4]
  have HW5 := Lib.hid hw5
  have zz5 := (b5).size
  have D5 := Lib.hid (Below.step D4.out b5 (by omega))
  have E5 := Lib.hid (E4.out.below b5)
  have H5 := Lib.hid (H4.out.below b5)
  have X5 := Lib.hid (X4.out.below b5)
  have XT5 := Lib.hid (XT4.out.below b5)
  have B5 := Lib.hid (B4.out.keep b5)
  have Y5 := Lib.hid (Y4.out.below b5)
  have YT5 := Lib.hid (YT4.out.below b5)
  clear D4 E4 H4 X4 XT4 B4 Y4 YT4
  have C5 := Lib.hid (x5_0)
  clear hw5 b5 x5_0
  go_upto_region 6 with fail
  rw [← HW5.out]
  go_wp2_with fail
  refine (c_sameInts a2 a4 _ c2 c4 v4 _ rfl H4L.out X5.out Y5.out).mono ?_
  rintro e w6 ⟨rfl, b6⟩
  have zz6 := (b6).size
  have D6 := Lib.hid (Below.step D5.out b6 (by omega))
  have E6 := Lib.hid (E5.out.below b6)
  have H6 := Lib.hid (H5.out.below b6)
  have X6 := Lib.hid (X5.out.below b6)
  have XT6 := Lib.hid (XT5.out.below b6)
  have B6 := Lib.hid (B5.out.keep b6)
  have Y6 := Lib.hid (Y5.out.below b6)
  have YT6 := Lib.hid (YT5.out.below b6)
  have C6 := Lib.hid (C5.out.keep b6)
  clear D5 E5 H5 X5 XT5 B5 Y5 YT5 C5
  clear b6
  obtain ⟨b_0, b_1, b_2, b_f⟩ := B6.out.three
  obtain ⟨c_0, c_1, c_2, c_f⟩ := C6.out.three
  go_wp2_with fail
  refine (c_sameTable v1 v2 t2 t4 _ d2 d4 v3 _ rfl HDL.out XT6.out YT6.out).mono ?_
  rintro e w7 ⟨rfl, b7⟩
  clear b_0 b_1 b_2 b_f c_0 c_1 c_2 c_f
  have zz7 := (b7).size
  have D7 := Lib.hid (Below.step D6.out b7 (by omega))
  have E7 := Lib.hid (E6.out.below b7)
  have H7 := Lib.hid (H6.out.below b7)
  have X7 := Lib.hid (X6.out.below b7)
  have XT7 := Lib.hid (XT6.out.below b7)
  have B7 := Lib.hid (B6.out.keep b7)
  have Y7 := Lib.hid (Y6.out.below b7)
  have YT7 := Lib.hid (YT6.out.below b7)
  have C7 := Lib.hid (C6.out.keep b7)
  clear D6 E6 H6 X6 XT6 B6 Y6 YT6 C6
  clear b7
  clear C7
  clear Y7
  clear YT7
  cases hrb : runB hs sz st vs
  · have hz := HDR.out.symm.trans (run_no hrb)
    simp only [Prod.mk.injEq] at hz
    obtain ⟨rfl, ⟨rfl, rfl, rfl⟩, rfl⟩ := hz
    clear HDR
    obtain ⟨b_0, b_1, b_2, b_f⟩ := B7.out.three
    go_wp2_with fail
    refine (c_alive _).mono ?_
    rintro e w8 ⟨rfl, b8⟩
    clear b_0 b_1 b_2 b_f
    have zz8 := (b8).size
    have D8 := Lib.hid (Below.step D7.out b8 (by omega))
    have E8 := Lib.hid (E7.out.below b8)
    have H8 := Lib.hid (H7.out.below b8)
    have X8 := Lib.hid (X7.out.below b8)
    have XT8 := Lib.hid (XT7.out.below b8)
    have B8 := Lib.hid (B7.out.keep b8)
    clear D7 E7 H7 X7 XT7 B7
    clear b8
    go_wp2
    go_ret
    exact ⟨rfl, D8.out⟩
  · have hz := HDR.out.symm.trans (run_yes hrb)
    simp only [Prod.mk.injEq] at hz
    obtain ⟨h4, h3, rfl⟩ := hz
    have hl4 : v4.length = n := by rw [h4, run_len', HN.out]
    have HL4 := Lib.hid hl4
    have HV : Hid (tv v1 v2 v3 = true) := Lib.hid (by
      obtain ⟨es, e1, e2⟩ := run_end hrb
      rw [← h3] at e1
      simp only [Prod.mk.injEq] at e1
      obtain ⟨rfl, rfl, rfl⟩ := e1
      exact e2)
    have HTM : Hid (∀ i, i < n → 0 ≤ (vs.getD i v0).1 ∧ (vs.getD i v0).1 ≤ 100000) := Lib.hid (fun i hi => by
      have hb := hrb
      simp only [runB, Bool.and_eq_true] at hb
      exact inB_true.1 ((ev_EV hb.2).time i (by rw [HN.out]; exact hi)))
    have HST : Hid (∀ k j, k < j → j < n → (n : Int) ≤ sz → (∀ i, k < i → i < j → (vs.getD i v0).2 ≠ (vs.getD k v0).2) → (vs.getD j v0).2 = (vs.getD k v0).2 → (vs.getD j v0).1 - (vs.getD k v0).1 < st → v4.getD j 0 = v4.getD k 0) := Lib.hid (fun k j h1 h2 h5 h6 h7 h8 => by
      rw [h4]
      exact run_sticks hrb (by rw [HN.out]; exact h5) h1 (by rw [HN.out]; exact h2) h6 h7 h8)
    clear h4 h3 hrb HDR
    rw [hl4]
    clear hl4
    go_wp2
    go_loopw [13] (fun i wr => ∃ (k : Nat), k ≤ n ∧ i = .int .i64 k ∧ Below w7.heap.size w7 wr) (fun i _ => n - (intOf i).toNat)
    case atStart => exact ⟨0, Nat.zero_le _, rfl, Below.refl _ _⟩
    case round =>
      obtain ⟨k, hk, rfl, hG⟩ := hrel
      obtain ⟨w8, rfl⟩ : ∃ W, W = wr := ⟨_, rfl⟩
      have zz8 := (hG).size
      have D8 := Lib.hid (Below.step D7.out hG (by omega))
      have E8 := Lib.hid (E7.out.below hG)
      have H8 := Lib.hid (H7.out.below hG)
      have X8 := Lib.hid (X7.out.below hG)
      have XT8 := Lib.hid (XT7.out.below hG)
      have B8 := Lib.hid (B7.out.keep hG)
      have G8 := Lib.hid (hG)
      clear hG
      by_cases hlt : k < n
      · by_cases hsz : (n : Int) ≤ sz
        · obtain ⟨bx, ox, rfl, hbx, _⟩ := Ints.at X8.out HL4.out hlt
          obtain ⟨be, oe, hea, hbe, _⟩ := E8.out.at HN.out hlt
          injection hea with hea
          subst hea
          go_wp2
          go_loopw [14] (fun j wr => ∃ (m : Nat), k < m ∧ m ≤ n ∧ j = .int .i64 m ∧ Below w8.heap.size w8 wr ∧ Hid (∀ i, k < i → i < m → (vs.getD i v0).2 ≠ (vs.getD k v0).2)) (fun j _ => n - (intOf j).toNat)
          case atStart => exact ⟨k + 1, by omega, by omega, by go_num, Below.refl _ _, Lib.hid fun i h1 h2 => by omega⟩
          case round =>
            obtain ⟨m, hkm, hm, rfl, hG2, HNE⟩ := hrel
            obtain ⟨w9, rfl⟩ : ∃ W, W = wr := ⟨_, rfl⟩
            have zz9 := (hG2).size
            have D9 := Lib.hid (Below.step D8.out hG2 (by omega))
            have E9 := Lib.hid (E8.out.below hG2)
            have H9 := Lib.hid (H8.out.below hG2)
            have X9 := Lib.hid (X8.out.below hG2)
            have XT9 := Lib.hid (XT8.out.below hG2)
            have B9 := Lib.hid (B8.out.keep hG2)
            have G9 := Lib.hid (Below.step G8.out hG2 (by omega))
            have F9 := Lib.hid (hG2)
            clear hG2
            by_cases hlm : m < n
            · obtain ⟨M, hM⟩ : ∃ M, vs.getD m v0 = M := ⟨_, rfl⟩
              obtain ⟨K, hK⟩ : ∃ K, vs.getD k v0 = K := ⟨_, rfl⟩
              have HS : Hid (M.2 = K.2 → M.1 - K.1 < st → v4.getD m 0 = v4.getD k 0) := Lib.hid (fun h1 h2 => HST.out k m hkm hlm hsz HNE.out (by rw [hM, hK]; exact h1) (by rw [hM, hK]; exact h2))
              have HNQ : Hid (M.2 ≠ K.2 → ∀ i, k < i → i < m + 1 → (vs.getD i v0).2 ≠ (vs.getD k v0).2) := Lib.hid (fun h1 i h2 h3 => by
                by_cases him : i = m
                · subst him; rw [hM, hK]; exact h1
                · exact HNE.out i h2 (by omega))
              have htm := HTM.out m hlm
              have htk := HTM.out k hlt
              rw [hM] at htm
              rw [hK] at htk
              have HCM : Hid (∀ W : World, Below w9.heap.size w9 W → EvAt W be (oe + m * 6) M) := Lib.hid (fun W hW => by
                have := (E9.out.below hW).at_some HN.out hlm
                rwa [hM] at this)
              have HCK : Hid (∀ W : World, Below w9.heap.size w9 W → EvAt W be (oe + k * 6) K) := Lib.hid (fun W hW => by
                have := (E9.out.below hW).at_some HN.out hlt
                rwa [hK] at this)
              have HXX : Hid (∀ W : World, Below w9.heap.size w9 W → ∀ j, j < n → W.cell? ⟨bx, ox + j, none⟩ = some (.int .i64 (v4.getD j 0))) := Lib.hid (fun W hW j hj => Ints.at_some (X9.out.below hW) (by rw [HL4.out]; exact hj))
              clear hM hK HNE
              obtain ⟨y0, y1, y2, y3, y4, y5⟩ := M
              obtain ⟨x0, x1, x2, x3, x4, x5⟩ := K
              dsimp only at htm htk HS HNQ
              have hwr : IntKind.i64.wrap (y0 - x0) = y0 - x0 := IntWalk.i64_in _ (by omega)
              by_cases hq : ((y1, y2, y3, y4, y5) : (Int × Int × Int × Int × Int)) = (x1, x2, x3, x4, x5)
              · have hqe := eqlF_yes' hq
                have HSQ := Lib.hid (HS.out hq)
                clear hq HS HNQ
                obtain ⟨p0, p1, p2, p3, p4, p5⟩ := HCM.out _ (Below.refl _ _)
                obtain ⟨q0, q1, q2, q3, q4, q5⟩ := HCK.out _ (Below.refl _ _)
                dsimp only at p0 p1 p2 p3 p4 p5 q0 q1 q2 q3 q4 q5
                have ap0 := aft_cell p0
                have ap1 := aft_cell p1
                have ap2 := aft_cell p2
                have ap3 := aft_cell p3
                have ap4 := aft_cell p4
                have ap5 := aft_cell p5
                have aq0 := aft_cell q0
                have aq1 := aft_cell q1
                have aq2 := aft_cell q2
                have aq3 := aft_cell q3
                have aq4 := aft_cell q4
                have aq5 := aft_cell q5
                clear p0 p1 p2 p3 p4 p5 q0 q1 q2 q3 q4 q5
                go_wp2
                refine wp_region_quietC (by kernel_rfl) (by kernel_rfl) ?_
                repeat (go_big_quiet_step (fail))
                refine wpQuiet_nil ?_
                rintro _ ⟨⟨w10, hb10⟩, rfl⟩
                clear ap0 ap1 ap2 ap3 ap4 ap5 aq0 aq1 aq2 aq3 aq4 aq5
                have HB := Lib.hid hb10
                have zz10 := (hb10).size
                have D10 := Lib.hid (Below.step D9.out hb10 (by omega))
                have E10 := Lib.hid (E9.out.below hb10)
                have H10 := Lib.hid (H9.out.below hb10)
                have X10 := Lib.hid (X9.out.below hb10)
                have XT10 := Lib.hid (XT9.out.below hb10)
                have B10 := Lib.hid (B9.out.keep hb10)
                have G10 := Lib.hid (Below.step G9.out hb10 (by omega))
                have F10 := Lib.hid (Below.step F9.out hb10 (by omega))
                clear D9 E9 H9 X9 XT9 B9 G9 F9
                clear hb10
                obtain ⟨p0, p1, p2, p3, p4, p5⟩ := HCM.out _ HB.out
                obtain ⟨q0, q1, q2, q3, q4, q5⟩ := HCK.out _ HB.out
                dsimp only at p0 p1 p2 p3 p4 p5 q0 q1 q2 q3 q4 q5
                have ap0 := aft_cell p0
                have ap1 := aft_cell p1
                have ap2 := aft_cell p2
                have ap3 := aft_cell p3
                have ap4 := aft_cell p4
                have ap5 := aft_cell p5
                have aq0 := aft_cell q0
                have aq1 := aft_cell q1
                have aq2 := aft_cell q2
                have aq3 := aft_cell q3
                have aq4 := aft_cell q4
                have aq5 := aft_cell q5
                clear p0 p1 p2 p3 p4 p5 q0 q1 q2 q3 q4 q5
                have cm := HXX.out _ HB.out m hlm
                have ck := HXX.out _ HB.out k hlt
                by_cases hd : y0 - x0 < st
                · rw [HSQ.out hd] at cm
                  generalize v4.getD k 0 = Z at cm ck
                  have acm := aft_cell cm
                  have ack := aft_cell ck
                  have hd2 : decide (y0 - x0 < st) = true := decide_eq_true hd
                  clear cm ck
                  go_wp2
                  refine wp_region_quietC (by kernel_rfl) (by kernel_rfl) ?_
                  repeat (go_big_quiet_step (fail))
                  refine wpQuiet_nil ?_
                  rintro _ ⟨⟨w11, hb11⟩, rfl⟩
                  clear ap0 ap1 ap2 ap3 ap4 ap5 aq0 aq1 aq2 aq3 aq4 aq5
                  clear acm ack
                  have zz11 := (hb11).size
                  have D11 := Lib.hid (Below.step D10.out hb11 (by omega))
                  have E11 := Lib.hid (E10.out.below hb11)
                  have H11 := Lib.hid (H10.out.below hb11)
                  have X11 := Lib.hid (X10.out.below hb11)
                  have XT11 := Lib.hid (XT10.out.below hb11)
                  have B11 := Lib.hid (B10.out.keep hb11)
                  have G11 := Lib.hid (Below.step G10.out hb11 (by omega))
                  have F11 := Lib.hid (Below.step F10.out hb11 (by omega))
                  clear D10 E10 H10 X10 XT10 B10 G10 F10
                  clear hb11
                  go_wp2
                  go_roundw
                  case rel => exact ⟨k + 1, by omega, by go_num, G11.out⟩
                  case measure => simp [intOf]; omega
                · have hd2 : decide (y0 - x0 < st) = false := decide_eq_false hd
                  clear cm ck
                  go_wp2
                  refine wp_region_quietC (by kernel_rfl) (by kernel_rfl) ?_
                  repeat (go_big_quiet_step (fail))
                  refine wpQuiet_nil ?_
                  rintro _ ⟨⟨w11, hb11⟩, rfl⟩
                  clear ap0 ap1 ap2 ap3 ap4 ap5 aq0 aq1 aq2 aq3 aq4 aq5
                  have zz11 := (hb11).size
                  have D11 := Lib.hid (Below.step D10.out hb11 (by omega))
                  have E11 := Lib.hid (E10.out.below hb11)
                  have H11 := Lib.hid (H10.out.below hb11)
                  have X11 := Lib.hid (X10.out.below hb11)
                  have XT11 := Lib.hid (XT10.out.below hb11)
                  have B11 := Lib.hid (B10.out.keep hb11)
                  have G11 := Lib.hid (Below.step G10.out hb11 (by omega))
                  have F11 := Lib.hid (Below.step F10.out hb11 (by omega))
                  clear D10 E10 H10 X10 XT10 B10 G10 F10
                  clear hb11
                  go_wp2
                  go_roundw
                  case rel => exact ⟨k + 1, by omega, by go_num, G11.out⟩
                  case measure => simp [intOf]; omega
              · have hqe := eqlF_no' hq
                have HNE2 := Lib.hid (HNQ.out hq)
                clear hq HS HNQ
                obtain ⟨p0, p1, p2, p3, p4, p5⟩ := HCM.out _ (Below.refl _ _)
                obtain ⟨q0, q1, q2, q3, q4, q5⟩ := HCK.out _ (Below.refl _ _)
                dsimp only at p0 p1 p2 p3 p4 p5 q0 q1 q2 q3 q4 q5
                have ap0 := aft_cell p0
                have ap1 := aft_cell p1
                have ap2 := aft_cell p2
                have ap3 := aft_cell p3
                have ap4 := aft_cell p4
                have ap5 := aft_cell p5
                have aq0 := aft_cell q0
                have aq1 := aft_cell q1
                have aq2 := aft_cell q2
                have aq3 := aft_cell q3
                have aq4 := aft_cell q4
                have aq5 := aft_cell q5
                clear p0 p1 p2 p3 p4 p5 q0 q1 q2 q3 q4 q5
                go_wp2
                refine wp_region_quietC (by kernel_rfl) (by kernel_rfl) ?_
                repeat (go_big_quiet_step (fail))
                refine wpQuiet_nil ?_
                rintro _ ⟨⟨w10, hb10⟩, rfl⟩
                clear ap0 ap1 ap2 ap3 ap4 ap5 aq0 aq1 aq2 aq3 aq4 aq5
                have zz10 := (hb10).size
                have D10 := Lib.hid (Below.step D9.out hb10 (by omega))
                have E10 := Lib.hid (E9.out.below hb10)
                have H10 := Lib.hid (H9.out.below hb10)
                have X10 := Lib.hid (X9.out.below hb10)
                have XT10 := Lib.hid (XT9.out.below hb10)
                have B10 := Lib.hid (B9.out.keep hb10)
                have G10 := Lib.hid (Below.step G9.out hb10 (by omega))
                have F10 := Lib.hid (Below.step F9.out hb10 (by omega))
                clear D9 E9 H9 X9 XT9 B9 G9 F9
                clear hb10
                go_wp2
                go_roundw
                case rel => exact ⟨m + 1, by omega, by omega, by go_num, F10.out, HNE2⟩
                case measure => simp [intOf]; omega
            · obtain rfl : m = n := by omega
              go_wp2
              go_roundw
              case rel => exact ⟨k + 1, by omega, by go_num, G9.out⟩
              case measure => simp [intOf]; omega
        · skip
          obtain ⟨b_0, b_1, b_2, b_f⟩ := B8.out.three
          go_wp2_with fail
          refine (c_TableValid v1 v2 t2 v3.length d2 v3 _ rfl HDL.out XT8.out).mono ?_
          rintro e w9 ⟨rfl, b9⟩
          clear b_0 b_1 b_2 b_f
          have zz9 := (b9).size
          have D9 := Lib.hid (Below.step D8.out b9 (by omega))
          have E9 := Lib.hid (E8.out.below b9)
          have H9 := Lib.hid (H8.out.below b9)
          have X9 := Lib.hid (X8.out.below b9)
          have XT9 := Lib.hid (XT8.out.below b9)
          have B9 := Lib.hid (B8.out.keep b9)
          have G9 := Lib.hid (Below.step G8.out b9 (by omega))
          clear D8 E8 H8 X8 XT8 B8 G8
          clear b9
          rw [HV.out]
          go_wp2
          go_ret
          exact ⟨rfl, D9.out⟩
      · obtain rfl : k = n := by omega
        obtain ⟨b_0, b_1, b_2, b_f⟩ := B8.out.three
        go_wp2_with fail
        refine (c_TableValid v1 v2 t2 v3.length d2 v3 _ rfl HDL.out XT8.out).mono ?_
        rintro e w9 ⟨rfl, b9⟩
        clear b_0 b_1 b_2 b_f
        have zz9 := (b9).size
        have D9 := Lib.hid (Below.step D8.out b9 (by omega))
        have E9 := Lib.hid (E8.out.below b9)
        have H9 := Lib.hid (H8.out.below b9)
        have X9 := Lib.hid (X8.out.below b9)
        have XT9 := Lib.hid (XT8.out.below b9)
        have B9 := Lib.hid (B8.out.keep b9)
        have G9 := Lib.hid (Below.step G8.out b9 (by omega))
        clear D8 E8 H8 X8 XT8 B8 G8
        clear b9
        rw [HV.out]
        go_wp2
        go_ret
        exact ⟨rfl, D9.out⟩
end Go.Proofs.Ytdkdfehlmphikaa
