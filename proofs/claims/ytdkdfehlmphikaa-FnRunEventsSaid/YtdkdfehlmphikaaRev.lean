/- RunEvents of the program. No condition but lists of at most 2^20. -/
import Derived.Test.YtdkdfehlmphikaaEvv
import Derived.Test.YtdkdfehlmphikaaFws
namespace Go.Proofs.Ytdkdfehlmphikaa
open Go.RowKit
/-- Hosts, a table and a bool are handed back, both lists new ones. -/
def RetRun (w : World) (q : List Int × T3 × Bool) (e : Ending) (w' : World) : Prop :=
  ∃ (b : Option Addr) (d : Nat) (a : Option Addr) (c : Nat), e = .returned (.tuple #[.slice b q.1.length d, .agg #[.int .i64 q.2.1.1, .int .i64 q.2.1.2.1, .slice a q.2.1.2.2.length c], .bool q.2.2]) ∧
    w'.ownsRow w.heap.size 3 1 (.slice b q.1.length d) q.1.length (q.1.map (Value.int .i64)) ∧ w'.ownsRow w.heap.size 69 7 (.slice a q.2.1.2.2.length c) q.2.1.2.2.length (eCells q.2.1.2.2) ∧ w.grownBy w' none
theorem retRun {w w' : World} {q : List Int × T3 × Bool} {xs : List Int} {d1 d2 : Int} {d3 : List E7} {ok : Bool} (hq : q = (xs, (d1, d2, d3), ok)) {b a : Option Addr} {d c : Nat} (o1 : w'.ownsRow w.heap.size 3 1 (.slice b xs.length d) xs.length (xs.map (Value.int .i64)))
    (o2 : w'.ownsRow w.heap.size 69 7 (.slice a d3.length c) d3.length (eCells d3)) (hb : Below w.heap.size w w') : RetRun w q (.returned (.tuple #[.slice b xs.length d, .agg #[.int .i64 d1, .int .i64 d2, .slice a d3.length c], .bool ok])) w' := by
  subst hq
  exact ⟨b, d, a, c, rfl, o1, o2, below_grown hb⟩
/-- Rows of different types do not share their blocks. -/
theorem rows_ne {w : World} {B B' n n' cap cap' : Nat} {e e' : TypeId} {size size' : Nat} {a a' : Option Addr} {vs vs' : List Value} (h : w.ownsRow B e size (.slice a n cap) n vs) (h' : w.ownsRow B' e' size' (.slice a' n' cap') n' vs') (he : e ≠ e') :
    ∀ k, (Value.slice a n cap).ownBlock = some k → (Value.slice a' n' cap').ownBlock = some k → False := by
  intro k h1 h2
  rcases h.2 with ⟨p1, _⟩ | ⟨g, c, cur, p1, _, p2, _⟩
  · rw [p1] at h1; simp [Value.ownBlock] at h1
  rcases h'.2 with ⟨q1, _⟩ | ⟨g', c', cur', q1, _, q2, _⟩
  · rw [q1] at h2; simp [Value.ownBlock] at h2
  rw [p1] at h1
  rw [q1] at h2
  have e1 : g = k := by simpa [Value.ownBlock] using h1
  have e2 : g' = k := by simpa [Value.ownBlock] using h2
  subst e1
  subst e2
  rw [p2] at q2
  injection q2 with q2
  injection q2 with _ q2 _
  exact he q2
/-- Where a run stands ahead of an event. -/
def RunR (hs : List H3) (sz st : Int) (vs : List V6) (g B : Nat) (wb : World) (i v : Value) (wr : World) : Prop :=
  ∃ (k : Nat) (d1 d2 : Int) (d3 : List E7) (xs : List Int) (a : Option Addr) (c : Nat) (b : Option Addr) (d : Nat), k ≤ vs.length ∧ i = .int .i64 k ∧ runK hs sz st (vs.take k) = ((d1, d2, d3), xs) ∧ v = .slice b xs.length d ∧
    Box wr g 30 [.int .i64 d1, .int .i64 d2, .slice a d3.length c] ∧ wr.ownsRow B 69 7 (.slice a d3.length c) d3.length (eCells d3) ∧ wr.ownsRow B 3 1 (.slice b xs.length d) xs.length (xs.map (Value.int .i64)) ∧ Below B wb wr
theorem run_tab {hs : List H3} {sz st : Int} {vs : List V6} {k : Nat} {d : T3} {xs : List Int} (h : runB hs sz st vs = true) (hk : k ≤ vs.length) (he : runK hs sz st (vs.take k) = (d, xs)) : d.2.2.length ≤ 40 ∧ xs.length = k := by
  obtain ⟨es, h1, _, h3, _⟩ := run_inv h k hk
  have h4 := run_len hs sz st vs k hk
  rw [he] at h1 h4
  simp only at h1 h4
  simp only [runB, Bool.and_eq_true] at h
  have := (ev_EV h.2).room
  rw [h1]
  exact ⟨by dsimp only; omega, h4⟩
set_option maxRecDepth 100000 in
set_option maxHeartbeats 8000000 in
theorem c_RunEvents (p : Option Addr) (pn pc : Nat) (hs : List H3) (sz st : Int) (a : Option Addr) (n cap : Nat) (vs : List V6) (w : World) (hps : hs.length = pn) (hpn : pn ≤ 1048576) (hP : Hosts w p hs) (hxs : vs.length = n) (hn : n ≤ 1048576) (hE : Evs w a vs) :
    Calls Try.prog 15 #[.slice p pn pc, .int .i64 sz, .int .i64 st, .slice a n cap] w (RetRun w (runT hs sz st vs)) := by
  have HP := Lib.hid hP
  have HE := Lib.hid hE
  have HX := Lib.hid hps
  have HM := Lib.hid hxs
  clear hP hE hps hxs
  have HQ : Hid (runT hs sz st vs = if runB hs sz st vs = true then ((runK hs sz st vs).2, (runK hs sz st vs).1, true) else ([], (0, 0, []), false)) := Lib.hid rfl
  have HB : Hid (runB hs sz st vs = (pv hs && tv sz st [] && evB vs)) := Lib.hid rfl
  have HE0 : Hid (∀ w : World, Ents w none []) := Lib.hid (fun w => .inl rfl)
  obtain ⟨w1, hw1, b1, sz1, xz, xt⟩ := headB w 30 30 [.int .i64 0, .int .i64 0, .slice none 0 0] [.int .i64 sz, .int .i64 st, .slice none 0 0]
  have HW1 := Lib.hid hw1
  have zz1 := b1.size
  have D1 := Lib.hid b1
  have Z1 := Lib.hid xz
  have T1 := Lib.hid xt
  clear hw1 b1 xz xt
  go_enter Try.func15, Try.ntmps15
  go_wp2_with fail
  rw [← HW1.out]
  refine (c_PoolValid p pn pc hs _ HX.out hpn (HP.out.below D1.out)).mono ?_
  rintro e w2 ⟨rfl, b2⟩
  have zz2 := b2.size
  have D2 := Lib.hid (Below.step D1.out b2 (by omega))
  have Z2 := Lib.hid (Z1.out.keep b2)
  have T2 := Lib.hid (T1.out.keep b2)
  clear b2 D1 Z1 T1
  cases h0 : pv hs
  · have HR : Hid (runT hs sz st vs = ([], (0, 0, []), false)) := Lib.hid (by rw [HQ.out, HB.out, h0]; rfl)
    clear HQ HB h0
    obtain ⟨z_0, z_1, z_2, z_f⟩ := Z2.out.three
    go_wp2
    refine bodyPost_ret (v := .tuple #[.slice none 0 0, .agg #[.int .i64 0, .int .i64 0, .slice none 0 0], .bool false]) (by simp [results, Try.results15, go_sem, z_0, z_1, z_2]) rfl ?_
    exact retRun HR.out (row_nil _ _ _ _) (row_nil _ _ _ _) (((D2.out.setCell (Nat.le_refl _) _).setCell (Nat.le_refl _) _).setCell (Nat.le_refl _) _)
  obtain ⟨t_0, t_1, t_2, t_f⟩ := T2.out.three
  go_wp2_with fail
  refine (c_TableValid sz st none 0 0 [] _ rfl (by omega) (HE0.out _)).mono ?_
  rintro e w3 ⟨rfl, b3⟩
  clear t_0 t_1 t_2 t_f
  have zz3 := b3.size
  have D3 := Lib.hid (Below.step D2.out b3 (by omega))
  have Z3 := Lib.hid (Z2.out.keep b3)
  have T3 := Lib.hid (T2.out.keep b3)
  clear b3 D2 Z2 T2
  cases h1 : tv sz st []
  · have HR : Hid (runT hs sz st vs = ([], (0, 0, []), false)) := Lib.hid (by rw [HQ.out, HB.out, h0, h1]; rfl)
    clear HQ HB h0 h1
    obtain ⟨z_0, z_1, z_2, z_f⟩ := Z3.out.three
    go_wp2
    refine bodyPost_ret (v := .tuple #[.slice none 0 0, .agg #[.int .i64 0, .int .i64 0, .slice none 0 0], .bool false]) (by simp [results, Try.results15, go_sem, z_0, z_1, z_2]) rfl ?_
    exact retRun HR.out (row_nil _ _ _ _) (row_nil _ _ _ _) (((D3.out.setCell (Nat.le_refl _) _).setCell (Nat.le_refl _) _).setCell (Nat.le_refl _) _)
  go_wp2_with fail
  refine (c_EventsValid a n cap vs _ HM.out hn (HE.out.below D3.out)).mono ?_
  rintro e w4 ⟨rfl, b4⟩
  have zz4 := b4.size
  have D4 := Lib.hid (Below.step D3.out b4 (by omega))
  have Z4 := Lib.hid (Z3.out.keep b4)
  have T4 := Lib.hid (T3.out.keep b4)
  clear b4 D3 Z3 T3
  cases h2 : evB vs
  · have HR : Hid (runT hs sz st vs = ([], (0, 0, []), false)) := Lib.hid (by rw [HQ.out, HB.out, h0, h1, h2]; rfl)
    clear HQ HB h0 h1 h2
    obtain ⟨z_0, z_1, z_2, z_f⟩ := Z4.out.three
    go_wp2
    refine bodyPost_ret (v := .tuple #[.slice none 0 0, .agg #[.int .i64 0, .int .i64 0, .slice none 0 0], .bool false]) (by simp [results, Try.results15, go_sem, z_0, z_1, z_2]) rfl ?_
    exact retRun HR.out (row_nil _ _ _ _) (row_nil _ _ _ _) (((D4.out.setCell (Nat.le_refl _) _).setCell (Nat.le_refl _) _).setCell (Nat.le_refl _) _)
  have HRB : Hid (runB hs sz st vs = true) := Lib.hid (by rw [HB.out, h0, h1, h2]; rfl)
  have HQ2 := Lib.hid (HQ.out.trans (if_pos HRB.out))
  clear HQ HB h0 h1 h2
  have hlo : w.heap.size + 2 ≤ w4.heap.size := by omega
  clear sz1
  have hn40 : n ≤ 40 := by
    have := HRB.out
    simp only [runB, Bool.and_eq_true] at this
    have := (ev_EV this.2).room
    have := HM.out
    omega
  go_wp2
  go_loopw [12, 36] (fun v i wr => RunR hs sz st vs (w.heap.size + 1) (w.heap.size + 1) w4 i v wr) (fun _ i _ => n - (intOf i).toNat)
  case atStart =>
    exact ⟨0, sz, st, [], [], none, 0, none, 0, Nat.zero_le _, rfl, run_zero _ _ _ _, rfl, T4.out, row_nil _ _ _ _, row_nil _ _ _ _, Below.refl _ _⟩
  case round =>
    obtain ⟨k, d1, d2, d3, xs, ta, tc, b, d, hk, rfl, hst, rfl, hT, hR, hO, hG⟩ := hrel
    rw [HM.out] at hk
    obtain ⟨hd3, hxl⟩ := run_tab HRB.out (by rw [HM.out]; exact hk) hst
    simp only at hd3
    have hxl40 : xs.length ≤ 40 := by omega
    clear hxl
    have HST := Lib.hid hst
    have BT := Lib.hid hT
    have RE := Lib.hid hR
    have RO := Lib.hid hO
    have GG := Lib.hid hG
    have zr := hG.size
    have DR : Hid (Below w.heap.size w wr) := Lib.hid (D4.out.trans (hG.mono (by omega)))
    have ZR : Hid (Box wr w.heap.size 30 [.int .i64 0, .int .i64 0, .slice none 0 0]) := Lib.hid (Z4.out.below hG (by omega))
    clear hst hT hR hO hG
    by_cases hlt : k < n
    · obtain ⟨bb, off, rfl, hbl, hc⟩ := (HE.out.below DR.out).at HM.out hlt
      obtain ⟨q0, q1, q2, q3, q4, q5⟩ := hc k hlt
      have HKS := Lib.hid (run_succ hs sz st (vs := vs) (i := k) (by rw [HM.out]; exact hlt))
      clear hc
      generalize hE : vs.getD k v0 = E at *
      obtain ⟨x0, x1, x2, x3, x4, x5⟩ := E
      clear hE
      dsimp only at q0 q1 q2 q3 q4 q5
      obtain ⟨⟨⟨u1, u2, u3⟩, u4⟩, hu⟩ : ∃ u, fwdT hs (d1, d2, d3) (x1, x2, x3, x4, x5) x0 = u := ⟨_, rfl⟩
      have hul := fwd_len (hs := hs) (t := (d1, d2, d3)) (f := (x1, x2, x3, x4, x5)) (now := x0)
      rw [hu] at hul
      simp only at hul
      have HKN : Hid (runK hs sz st (vs.take (k + 1)) = ((u1, u2, u3), xs ++ [u4])) := Lib.hid (by rw [HKS.out, HST.out]; simp only [runS, hu])
      have HU := Lib.hid hu
      clear hu HKS
      obtain ⟨w5, hw5, b5, sz5, xe⟩ := head1 wr 39 [.int .i64 x0, .int .i64 x1, .int .i64 x2, .int .i64 x3, .int .i64 x4, .int .i64 x5]
      have HW5 := Lib.hid hw5
      have zz5 := b5.size
      have G5 := Lib.hid (Below.step GG.out b5 (by omega))
      have DR5 := Lib.hid (Below.step DR.out b5 (by omega))
      have ZR5 := Lib.hid (ZR.out.keep b5)
      have BT5 := Lib.hid (BT.out.keep b5)
      have RE5 := Lib.hid (row_below RE.out b5)
      have RO5 := Lib.hid (row_below RO.out b5)
      have BE5 := Lib.hid xe
      clear hw5 b5 xe GG DR ZR BT RE RO sz5
      go_upto_region 8 with fail
      rw [← HW5.out]
      clear q0 q1 q2 q3 q4 q5
      obtain ⟨t_0, t_1, t_2, t_f⟩ := BT5.out.three
      obtain ⟨e_0, e_1, e_2, e_3, e_4, e_5, e_f⟩ := BE5.out.six
      have HF : Calls Try.prog 27 #[.slice p pn pc, .agg #[.int .i64 d1, .int .i64 d2, .slice ta d3.length tc], .agg #[.int .i64 x1, .int .i64 x2, .int .i64 x3, .int .i64 x4, .int .i64 x5], .int .i64 x0] w5 (RetFw w5 ((u1, u2, u3), u4)) := by
        have := c_ForwardPacket p pn pc hs d1 d2 ta d3.length tc d3 (x1, x2, x3, x4, x5) x0 w5 HX.out hpn (HP.out.below DR5.out) rfl (by omega) (EntRow.ents RE5.out) (own_none RE5.out)
        rw [HU.out] at this
        exact this
      have HFF := Lib.hid HF
      clear HF
      go_wp2_with fail
      refine HFF.out.mono ?_
      rintro e w6 ⟨a6, c6, rfl, o6, g6⟩
      clear t_0 t_1 t_2 t_f e_0 e_1 e_2 e_3 e_4 e_5 e_f HFF
      have b6 := grown_below g6
      have zz6 := b6.size
      have G6 := Lib.hid (Below.step G5.out b6 (by omega))
      have DR6 := Lib.hid (Below.step DR5.out b6 (by omega))
      have BT6 := Lib.hid (BT5.out.keep b6)
      have RO6 := Lib.hid (row_below RO5.out b6)
      have RN6 := Lib.hid (row_wider (B' := w.heap.size + 1) o6 (by omega))
      clear b6 g6 o6 G5 DR5 ZR5 BT5 RE5 RO5 BE5
      obtain ⟨w7, hw7, b7, sz7, xn⟩ := head1 w6 30 [.int .i64 u1, .int .i64 u2, .slice a6 u3.length c6]
      have HW7 := Lib.hid hw7
      have zz7 := b7.size
      have G7 := Lib.hid (Below.step G6.out b7 (by omega))
      have BT7 := Lib.hid (BT6.out.keep b7)
      have RO7 := Lib.hid (row_below RO6.out b7)
      have RN7 := Lib.hid (row_below RN6.out b7)
      have BN7 := Lib.hid xn
      clear hw7 b7 xn G6 DR6 BT6 RO6 RN6 sz7
      go_upto_region 9 with fail
      rw [← HW7.out]
      go_wp2_with (at_builtin; refine wpl_app _ rfl elemI (.tmp 50) (.tmp 52) rfl (w.heap.size + 1) _ _ _ rfl (RO7.out.alloc _) _ 1 1 [.int .i64 u4] rfl rfl (news_of (Box.new2 _ 3 [_] _ rfl)) (one1 rfl) (by decide) ?c1 ?c2 (xs.length + 1) rfl _ rfl ?c4)
      case c1 => omega
      case c2 => first | omega | (simp; omega)
      case c4 =>
        intro b' cap' w8 hown hgrow hat hlt5
        have hgr := grownBy_tr (grownBy_alloc w7 _ (.cells #[.int .i64 u4] 3)) hgrow
        have hz8 : w7.heap.size + 1 ≤ w8.heap.size := by have := hgrow.size; simpa using this
        have G8 := Lib.hid (G7.out.grown hgr (by omega) (fun g hg => (RO7.out.lt g hg).1))
        have BT8 := Lib.hid (BT7.out.kept hgr (row_ne RO7.out BT7.out (by decide)))
        have BN8 := Lib.hid (BN7.out.kept hgr (row_ne RO7.out BN7.out (by decide)))
        have RN8 := Lib.hid (row_kept RN7.out hgr (fun q hq hq' => rows_ne RN7.out RO7.out (by decide) q hq hq'))
        have RO8 : Hid (w8.ownsRow (w.heap.size + 1) 3 1 (.slice (some ⟨b', 0, none⟩) (xs.length + 1) cap') (xs.length + 1) ((xs ++ [u4]).map (Value.int .i64))) := Lib.hid (by rw [List.map_append]; exact hown)
        clear hown hgrow hat hgr G7 BT7 BN7 RN7 RO7
        obtain ⟨t_0, t_1, t_2, t_f⟩ := BT8.out.three
        obtain ⟨n_0, n_1, n_2, n_f⟩ := BN8.out.three
        have hgt : w.heap.size + 1 ≠ w6.heap.size := by omega
        go_wp2
        go_roundw
        case rel =>
          have hne := row_ne RN8.out BT8.out (by decide)
          have hne2 := row_ne RO8.out BT8.out (by decide)
          refine ⟨k + 1, u1, u2, u3, xs ++ [u4], a6, c6, some ⟨b', 0, none⟩, cap', by rw [HM.out]; omega, by go_num, HKN.out, by rw [List.length_append]; rfl, ((BT8.out.set 0 _).set 1 _).set 2 _, row_set (row_set (row_set RN8.out _ _ hne) _ _ hne) _ _ hne, ?_, ((G8.out.setCell (Nat.le_refl _) _).setCell (Nat.le_refl _) _).setCell (Nat.le_refl _) _⟩
          rw [List.length_append]
          exact row_set (row_set (row_set RO8.out _ _ hne2) _ _ hne2) _ _ hne2
        case measure => simp [intOf]; omega
    · obtain rfl : k = n := by omega
      have hfin : runT hs sz st vs = (xs, (d1, d2, d3), true) := by
        have h1 := HST.out
        rw [← HM.out, List.take_length] at h1
        rw [HQ2.out, h1]
      have HR := Lib.hid hfin
      clear hfin HQ2
      obtain ⟨t_0, t_1, t_2, t_f⟩ := BT.out.three
      obtain ⟨z_0, z_1, z_2, z_f⟩ := ZR.out.three
      have hne := row_ne RE.out ZR.out (by decide)
      have hne2 := row_ne RO.out ZR.out (by decide)
      have hx1 : ¬ w.heap.size + 1 = w.heap.size := by omega
      have hx2 : ¬ w.heap.size = w.heap.size + 1 := by omega
      have hlz := ZR.out.lt
      have hlb := BT.out.lt
      go_wp2_with fail
      go_region
      go_wp2
      refine bodyPost_ret (v := .tuple #[.slice b xs.length d, .agg #[.int .i64 d1, .int .i64 d2, .slice ta d3.length tc], .bool true]) (by simp [results, Try.results15, go_sem, z_0, z_1, z_2]) rfl ?_
      exact retRun HR.out (row_wider (row_drewN (row_set (row_set (row_set RO.out _ _ hne2) _ _ hne2) _ _ hne2) 1) (by omega)) (row_wider (row_drewN (row_set (row_set (row_set RE.out _ _ hne) _ _ hne) _ _ hne) 1) (by omega)) (((DR.out.setCell (Nat.le_refl _) _).setCell (Nat.le_refl _) _).setCell (Nat.le_refl _) _).drew
end Go.Proofs.Ytdkdfehlmphikaa
