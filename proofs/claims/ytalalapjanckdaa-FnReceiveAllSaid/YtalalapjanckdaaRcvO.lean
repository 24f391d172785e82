/- Contract of the program's Receive: the number that is wanted. No condition but lists of at most 10^6 numbers. -/
import Derived.Test.YtalalapjanckdaaRcvF
namespace Go.Proofs.Ytalalapjanckdaa
open Go.RowKit
def lenOf' : Value → Nat
  | .slice _ n _ => n
  | _ => 0
theorem row_one {B : Nat} (w : World) (v : Value) (T : TypeId) (g : Nat) (hg : w.heap.size = g) (h : B ≤ g) : (w.alloc (.cells #[v] T)).ownsRow B T 1 (.slice (some ⟨g, 0, none⟩) 1 1) 1 [v] := by
  subst hg
  exact ⟨rfl, .inr ⟨w.heap.size, 1, #[v], rfl, h, heap_alloc_new w _, Nat.le_refl _, by unfold maxLen; omega, rfl, rfl⟩⟩
theorem upFrom_succ (N : Int) (k : Nat) : upFrom N (k + 1) = upFrom N k ++ [N + (k : Int)] := by
  simp [upFrom, List.range_succ]
/-- What the loop that hands numbers on keeps. -/
def OnRel (N R : Int) (xs : List Int) (n g2 G : Nat) (W : World) (v : Value) (wr : World) : Prop :=
  ∃ (k m b bc : Nat) (aa : Option Addr) (cc : Nat), k ≤ runLen N xs ∧ m + k = n ∧ v = .slice (some ⟨b, 0, none⟩) (k + 1) bc ∧ wr.ownsRow G 3 1 (.slice (some ⟨b, 0, none⟩) (k + 1) bc) (k + 1) ((upFrom N (k + 1)).map (Value.int .i64)) ∧
    Box wr g2 52 [.int .i64 N, .int .i64 R, .slice aa m cc] ∧ Ints wr aa (xs.drop k) ∧ (∀ p, aa = some p → p.block < g2) ∧ (aa = none → m = 0 ∧ cc = 0) ∧ m ≤ cc ∧ Below g2 W wr
theorem drop_get (xs : List Int) (k : Nat) : (xs.drop k).getD 0 0 = xs.getD k 0 := by
  rw [List.getD_eq_getElem?_getD, List.getElem?_drop, List.getD_eq_getElem?_getD, Nat.add_zero]
theorem drop_get1 (xs : List Int) (k j : Nat) : (xs.drop (k + 1)).getD j 0 = (xs.drop k).getD (j + 1) 0 := by
  rw [List.getD_eq_getElem?_getD, List.getElem?_drop, List.getD_eq_getElem?_getD, List.getElem?_drop, show k + 1 + j = k + (j + 1) by omega]
set_option maxHeartbeats 3200000 in
theorem c_Rc_on (N R : Int) (a : Option Addr) (n cap : Nat) (xs : List Int) (w : World) (hxs : xs.length = n) (hn : n ≤ 1000000) (h : Ints w a xs) (ha : a = none → n = 0 ∧ cap = 0) (hv : rv N R xs = true) (h2 : xs.contains N = false) :
    Calls Try.prog 29 #[.agg #[.int .i64 N, .int .i64 R, .slice a n cap], .int .i64 N] w (RetRc w (rcv N R xs N)) := by
  obtain ⟨⟨b1, b2⟩, ⟨b3, b4⟩, -, -⟩ := (rv_iff N R xs).1 hv
  have H0 := Lib.hid h
  have HEnd := Lib.hid (fun h5 => rcv_end (hs := xs) hv h2 (by omega) h5)
  have HOn := Lib.hid (fun h5 => rcv_on (hs := xs) hv h2 (by omega) h5)
  have hLn := runLen_le xs N
  have HLa := Lib.hid (runLen_at xs N)
  have HLs := Lib.hid (runLen_stop xs N)
  obtain ⟨W0, hW, g0, hs, bx, bY⟩ := head2 (N := N) (R := R) (a := a) (n := n) (cap := cap) w
  have HX := Lib.hid hxs
  have HW := Lib.hid hW
  have HG := Lib.hid g0
  have HS := Lib.hid hs
  have HI := Lib.hid (h.below g0)
  have HA := Lib.hid ha
  have HBx := Lib.hid bx
  have HBy := Lib.hid bY
  have HP := Lib.hid (rv_le hv)
  clear hxs hW g0 hs h ha bx bY
  go_enter Try.func29, Try.ntmps29
  go_wp2_with fail
  rw [← HW.out]
  refine (c_ReceiverValid N R a n cap xs _ HX.out (by omega) HI.out).mono ?_; rintro e w1 ⟨rfl, b1⟩
  rw [hv]
  have B1 : Hid (Below w.heap.size w w1) := Lib.hid (HG.out.trans (b1.mono (by rw [HS.out]; omega)))
  have z1 := b1.size
  rw [HS.out] at z1
  have Bx1 := Lib.hid (HBx.out.keep b1)
  have By1 := Lib.hid (HBy.out.keep b1)
  have I1 := Lib.hid (HI.out.below b1)
  obtain ⟨x0, x1, x2, fx⟩ := Bx1.out.three
  clear b1 fx
  go_wp2_with fail
  refine (c_cloneR N R a n cap xs _ HX.out (by omega) I1.out HA.out).mono ?_; rintro e w2 ⟨a', c', rfl, o2, g2⟩
  rw [HX.out] at o2 ⊢
  have O2 := Lib.hid o2
  have G2 := Lib.hid (grown_below g2)
  have z2 := g2.size
  obtain ⟨W3, hW3⟩ : ∃ W3, W3 = w2.alloc (.cells #[.int .i64 N, .int .i64 R, .slice a' n c'] 52) := ⟨_, rfl⟩
  have HW3 := Lib.hid hW3
  have z3 : W3.heap.size = w2.heap.size + 1 := by rw [hW3]; simp
  have B3 : Hid (Below w.heap.size w W3) := Lib.hid (by rw [hW3]; exact (B1.out.trans (G2.out.mono (by omega))).alloc (by omega) _)
  have Bx3 : Hid (Box W3 w.heap.size 52 [.int .i64 N, .int .i64 R, .slice a n cap]) := Lib.hid (by rw [hW3]; exact (Bx1.out.keep G2.out).alloc _)
  have By3 : Hid (Box W3 (w.heap.size + 1) 52 [.int .i64 0, .int .i64 0, .slice none 0 0]) := Lib.hid (by rw [hW3]; exact (By1.out.keep G2.out).alloc _)
  have Bu3 : Hid (Box W3 w2.heap.size 52 [.int .i64 N, .int .i64 R, .slice a' n c']) := Lib.hid (by rw [hW3]; exact Box.new2 _ _ _ _ rfl)
  have I3 : Hid (Ints W3 a xs) := Lib.hid (by rw [hW3]; exact (I1.out.below G2.out).below ((Below.refl _ _).alloc (Nat.le_refl _) _))
  have O3 : Hid (W3.ownsRow w1.heap.size 3 1 (.slice a' n c') n (xs.map (Value.int .i64))) := Lib.hid (by rw [hW3]; exact O2.out.alloc _)
  have HZ3 := Lib.hid z3
  clear o2 g2 hW3 x0 x1 x2 z3
  go_wp2_with fail
  rw [← HW3.out]
  refine (c_BSearch a' n c' xs N _ HX.out (by omega) (own_ints O3.out).1 HP.out).mono ?_; rintro e w4 ⟨rfl, b4⟩
  have B4 : Hid (Below w.heap.size w w4) := Lib.hid (B3.out.trans (b4.mono (by rw [HZ3.out]; omega)))
  have z4 : w2.heap.size + 1 ≤ w4.heap.size := by have := b4.size; rw [HZ3.out] at this; exact this
  have Bx4 := Lib.hid (Bx3.out.keep b4)
  have By4 := Lib.hid (By3.out.keep b4)
  have Bu4 := Lib.hid (Bu3.out.keep b4)
  have I4 := Lib.hid (I3.out.below b4)
  have O4 := Lib.hid (row_below O3.out b4)
  have hlt4 : ∀ k, (Value.slice a' n c').ownBlock = some k → w1.heap.size ≤ k ∧ k < w2.heap.size := O2.out.lt
  have LT := Lib.hid hlt4
  clear b4 hlt4
  rw [HX.out] at hLn
  rw [h2]
  clear h2 hv
  obtain ⟨W5, hW5⟩ : ∃ W5, W5 = w4.alloc (.cells #[.int .i64 N] 3) := ⟨_, rfl⟩
  have HW5 := Lib.hid hW5
  have hs5 : W5.heap.size = w4.heap.size + 1 := by rw [hW5]; simp
  have R5 : Hid (W5.ownsRow w4.heap.size 3 1 (.slice (some ⟨w4.heap.size, 0, none⟩) 1 1) 1 ((upFrom N 1).map (Value.int .i64))) := Lib.hid (by
    rw [hW5, show upFrom N 1 = [N] by simp [upFrom]]
    exact row_one _ _ _ _ rfl (Nat.le_refl _))
  have A5 : Below w4.heap.size w4 W5 := by rw [hW5]; exact (Below.refl _ _).alloc (Nat.le_refl _) _
  have Bx5 := Lib.hid (Bx4.out.keep A5)
  have By5 := Lib.hid (By4.out.keep A5)
  have Bu5 := Lib.hid (Bu4.out.keep A5)
  have I5 := Lib.hid (I4.out.below A5)
  have J5 := Lib.hid ((own_ints O4.out).1.below A5)
  have JA := Lib.hid (own_none O4.out)
  have JC := (row_cap O4.out).1
  have JB : Hid (∀ p, a' = some p → p.block < w2.heap.size) := Lib.hid (by
    intro p hp
    subst hp
    rcases O4.out.2 with ⟨h1, _⟩ | ⟨g, c, cur, h1, _⟩
    · injection h1 with h1; cases h1
    · injection h1 with h1 _ _
      injection h1 with h1
      subst h1
      exact (LT.out g rfl).2)
  have B5 : Hid (Below w.heap.size w W5) := Lib.hid (B4.out.trans (A5.mono (by omega)))
  have HS5 := Lib.hid hs5
  obtain ⟨x0, x1, x2, fx⟩ := Bx4.out.three
  obtain ⟨u0, u1, u2, fu⟩ := Bu4.out.three
  clear hW5 hs5 A5
  go_wp2
  rw [← HW5.out]
  clear x0 x1 x2 fx u0 u1 u2 fu
  go_loopw [10] (OnRel N R xs n w2.heap.size w4.heap.size W5) (fun v _ => n + 2 - lenOf' v)
  case atStart => exact ⟨0, n, _, _, a', c', Nat.zero_le _, rfl, rfl, R5.out, Bu5.out, J5.out, JB.out, JA.out, JC, Below.refl _ _⟩
  case round =>
    obtain ⟨k, m, b, bc, aa, cc, hk, hm, rfl, hown, hbx, hin, hab, han, hmc, hbl⟩ := hrel
    have HO := Lib.hid hown
    have HBX := Lib.hid hbx
    have HIN := Lib.hid hin
    have HAB := Lib.hid hab
    have HAN := Lib.hid han
    have HBL := Lib.hid hbl
    obtain ⟨hb1, hb2⟩ := hown.lt b rfl
    have zr := hbl.size
    obtain ⟨u0, u1, u2, fu⟩ := hbx.three
    clear hown hbx hin hab han hbl
    by_cases hlt : k < runLen N xs
    · have hm0 : 0 < m := by omega
      have hla := HLa.out k hlt
      obtain ⟨p1, off1, rfl, hp1, hcc⟩ := HIN.out.at (k := 0) (show (xs.drop k).length = m by rw [List.length_drop, HX.out]; omega) hm0
      have c0 := hcc 0 hm0
      rw [drop_get, hla, show N + 1 + (k : Int) = N + ((k : Int) + 1) by omega, Nat.add_zero] at c0
      have hp2 := HAB.out _ rfl
      simp only at hp2
      clear hcc hla
      have hw1 : IntKind.i64.wrap (N + ((k : Int) + 1)) = N + ((k : Int) + 1) := IntWalk.i64_in _ (by omega)
      by_cases hc1 : cc = 1
      · subst hc1
        obtain rfl : m = 1 := by omega
        go_wp2_with (at_builtin; refine wpl_app _ rfl elemI (.tmp 73) (.tmp 78) rfl w4.heap.size _ (k + 1) _ rfl (HO.out.alloc _) ⟨wr.heap.size, 0, none⟩ 1 1 [.int .i64 (N + ((k : Int) + 1))] rfl rfl (news_of (Box.new2 _ 3 [_] _ rfl)) (one1 rfl) (by decide) ?c1 ?c2 (k + 2) rfl ((upFrom N (k + 2)).map (Value.int .i64)) ?c3 ?c4)
        case c1 => omega
        case c2 => simp; omega
        case c3 => rw [show k + 2 = k + 1 + 1 by rfl, upFrom_succ N (k + 1), List.map_append]; simp
        case c4 =>
          intro b' cap'' w6 hown hgrow hat hlt6
          have HB6 : Hid (Below w2.heap.size wr w6) := Lib.hid (((Below.refl _ wr).alloc (by omega) _).grown hgrow (by simp; omega) (fun g hg => by simp [Value.ownBlock] at hg; omega))
          have HBX6 : Hid (Box w6 w2.heap.size 52 [.int .i64 N, .int .i64 R, .slice (some ⟨p1, off1, none⟩) 1 1]) := Lib.hid ((hgrow.block w2.heap.size (by simp; omega) (by simp [Value.ownBlock]; omega)).trans (HBX.out.alloc _))
          have HO6 := Lib.hid hown
          have hb6 := (hown.lt b' rfl).1
          obtain ⟨u0, u1, u2, fu⟩ := HBX6.out.three
          have z6 := HB6.out.size
          clear hown hgrow hat
          go_wp2
          go_roundw
          case rel =>
            refine ⟨k + 1, 0, b', cap'', _, _, by omega, by omega, rfl, row_set HO6.out _ _ (by simp [Value.ownBlock]; omega), HBX6.out.set 2 _, ?_, ?_, ?_, ?_, ?_⟩
            · exact .inl (List.eq_nil_of_length_eq_zero (by rw [List.length_drop, HX.out]; omega))
            · intro p hp; cases hp; exact hp2
            · intro hp; cases hp
            · omega
            · exact (HBL.out.trans (HB6.out)).setCell (by simp) _
          case measure => simp [lenOf']; omega
      · have hc2 : ¬ ((cc : Int) = 1) := by omega
        go_wp2_with (at_builtin; refine wpl_app _ rfl elemI (.tmp 73) (.tmp 78) rfl w4.heap.size _ (k + 1) _ rfl (HO.out.alloc _) ⟨wr.heap.size, 0, none⟩ 1 1 [.int .i64 (N + ((k : Int) + 1))] rfl rfl (news_of (Box.new2 _ 3 [_] _ rfl)) (one1 rfl) (by decide) ?c1 ?c2 (k + 2) rfl ((upFrom N (k + 2)).map (Value.int .i64)) ?c3 ?c4)
        case c1 => omega
        case c2 => simp; omega
        case c3 => rw [show k + 2 = k + 1 + 1 by rfl, upFrom_succ N (k + 1), List.map_append]; simp
        case c4 =>
          intro b' cap'' w6 hown hgrow hat hlt6
          have HB6 : Hid (Below w2.heap.size wr w6) := Lib.hid (((Below.refl _ wr).alloc (by omega) _).grown hgrow (by simp; omega) (fun g hg => by simp [Value.ownBlock] at hg; omega))
          have HBX6 : Hid (Box w6 w2.heap.size 52 [.int .i64 N, .int .i64 R, .slice (some ⟨p1, off1, none⟩) m cc]) := Lib.hid ((hgrow.block w2.heap.size (by simp; omega) (by simp [Value.ownBlock]; omega)).trans (HBX.out.alloc _))
          have HO6 := Lib.hid hown
          have hb6 := (hown.lt b' rfl).1
          obtain ⟨u0, u1, u2, fu⟩ := HBX6.out.three
          have z6 := HB6.out.size
          clear hown hgrow hat
          go_wp2
          go_roundw
          case rel =>
            refine ⟨k + 1, m - 1, b', cap'', _, _, by omega, by omega, rfl, row_set HO6.out _ _ (by simp [Value.ownBlock]; omega), HBX6.out.set 2 _, ?_, ?_, ?_, ?_, ?_⟩
            · refine Ints.set ?_ _ _ (fun q hq => by cases hq; simp; omega)
              rcases HIN.out.belowB HB6.out HAB.out with h0 | ⟨b9, off9, h9, hb9, hc9⟩
              · exact .inl (by
                  have := congrArg List.length h0
                  rw [List.length_drop, HX.out] at this
                  simp at this
                  omega)
              · cases h9
                exact .inr ⟨p1, off1 + 1, rfl, hb9, fun j hj => by
                  have := hc9 (j + 1) (by rw [List.length_drop] at hj ⊢; omega)
                  rw [drop_get1, Nat.add_assoc, Nat.add_comm 1 j]
                  exact this⟩
            · intro p hp; cases hp; exact hp2
            · intro hp; cases hp
            · omega
            · exact (HBL.out.trans (HB6.out)).setCell (by simp) _
          case measure => simp [lenOf']; omega
    · have hkL : runLen N xs = k := by omega
      have HK := Lib.hid hkL
      have HE := HEnd.out
      have HO2 := HOn.out
      rw [hkL] at HE HO2
      have HE2 := Lib.hid HE
      have HO3 := Lib.hid HO2
      clear HE HO2
      have hst := Lib.hid (fun h0 => (HLs.out h0 : xs.getD (runLen N xs) 0 ≠ N + 1 + (runLen N xs : Int)))
      rw [hkL, HX.out] at hst
      have BX : Hid (Box wr w.heap.size 52 [.int .i64 N, .int .i64 R, .slice a n cap]) := Lib.hid (Bx5.out.below HBL.out (by omega))
      have BY : Hid (Box wr (w.heap.size + 1) 52 [.int .i64 0, .int .i64 0, .slice none 0 0]) := Lib.hid (By5.out.below HBL.out (by omega))
      have BQ : Hid (Below w.heap.size w (wr.setCell ⟨w2.heap.size, 0, none⟩ (.int .i64 (N + ((k : Int) + 1))))) := Lib.hid ((B5.out.trans (HBL.out.mono (by omega))).setCell (by simp; omega) _)
      have IQ : Hid (Ints (wr.setCell ⟨w2.heap.size, 0, none⟩ (.int .i64 (N + ((k : Int) + 1)))) aa (xs.drop k)) := Lib.hid (HIN.out.set _ _ (fun q hq => by have := HAB.out q hq; simp; omega))
      have BYQ : Hid (Box (wr.setCell ⟨w2.heap.size, 0, none⟩ (.int .i64 (N + ((k : Int) + 1)))) (w.heap.size + 1) 52 [.int .i64 0, .int .i64 0, .slice none 0 0]) := Lib.hid (BY.out.other (by simp; omega) _)
      have HOQ : Hid ((wr.setCell ⟨w2.heap.size, 0, none⟩ (.int .i64 (N + ((k : Int) + 1)))).ownsRow w4.heap.size 3 1 (.slice (some ⟨b, 0, none⟩) (k + 1) bc) (k + 1) ((upFrom N (k + 1)).map (Value.int .i64))) := Lib.hid (row_set HO.out _ _ (by simp [Value.ownBlock]; omega))
      obtain ⟨x0, x1, x2, fx⟩ := BX.out.three
      have hdl : (xs.drop k).length = m := by rw [List.length_drop, HX.out]; omega
      have HDL := Lib.hid hdl
      have hw1 : IntKind.i64.wrap (N + ((k : Int) + 1)) = N + ((k : Int) + 1) := IntWalk.i64_in _ (by omega)
      have hcell : Hid (0 < m → ∃ p1 off1 y, aa = some ⟨p1, off1, none⟩ ∧ wr.cell? ⟨p1, off1, none⟩ = some (.int .i64 y) ∧ y ≠ N + ((k : Int) + 1)) := Lib.hid (fun hm0 => by
        obtain ⟨p1, off1, hp, _, hcc⟩ := HIN.out.at (k := 0) HDL.out hm0
        have c0 := hcc 0 hm0
        rw [drop_get, Nat.add_zero] at c0
        exact ⟨p1, off1, _, hp, c0, by have := hst.out (by omega); omega⟩)
      clear hst hdl hkL
      by_cases hm0 : 0 < m
      · obtain ⟨p1, off1, y, rfl, c0, hy⟩ := hcell.out hm0
        have hyb : (y == N + ((k : Int) + 1)) = false := beq_eq_false_iff_ne.2 hy
        by_cases h5 : 100000 < N + ((k : Int) + 1)
        · go_wp2_with fail
          refine (c_cloneR N R a n cap xs _ HX.out (by omega) (H0.out.below BQ.out) HA.out).mono ?_; rintro e w8 ⟨a8, c8, rfl, o8, g8⟩
          rw [HX.out] at o8 ⊢
          have B8 : Hid (Below w.heap.size w w8) := Lib.hid (BQ.out.trans ((grown_below g8).mono (by simp; omega)))
          have z8 := g8.size
          obtain ⟨y0, y1, y2, fy⟩ := (BYQ.out.keep (grown_below g8)).three
          have LT8 : Hid ((Value.slice a8 n c8).ownBlock ≠ some (w.heap.size + 1)) := Lib.hid (fun e => by have := (o8.lt _ e).1; simp at this; omega)
          have O8' : Hid (w8.ownsRow w.heap.size 3 1 (.slice a8 n c8) n (xs.map (Value.int .i64))) := Lib.hid (row_wider o8 (by simp; omega))
          simp only [World.size_setCell] at z8
          clear o8 g8
          go_wp2
          refine bodyPost_ret (v := .tuple #[.agg #[.int .i64 N, .int .i64 R, .slice a8 n c8], .slice none 0 0, .bool false]) (by simp [results, Try.results29, go_sem, y0, y1, y2]) rfl ?_
          have hb := B8.out
          rw [HE2.out (by omega)]
          refine ⟨a8, c8, none, 0, by rw [HX.out]; rfl, ?_, row_nil _ _ _ _, fun k _ => by simp [Value.ownBlock], by go_grown⟩
          rw [HX.out]
          exact row_set (row_set (row_set O8'.out _ _ LT8.out) _ _ LT8.out) _ _ LT8.out
        · go_wp2_with fail
          refine (c_cloneR (N + ((k : Int) + 1)) R (some ⟨p1, off1, none⟩) m cc (xs.drop k) _ HDL.out (by omega) IQ.out HAN.out).mono ?_; rintro e w8 ⟨a8, c8, rfl, o8, g8⟩
          rw [HDL.out] at o8 ⊢
          have B8 : Hid (Below w.heap.size w w8) := Lib.hid (BQ.out.trans ((grown_below g8).mono (by simp; omega)))
          have z8 := g8.size
          obtain ⟨y0, y1, y2, fy⟩ := (BYQ.out.keep (grown_below g8)).three
          have LT8 : Hid ((Value.slice a8 m c8).ownBlock ≠ some (w.heap.size + 1)) := Lib.hid (fun e => by have := (o8.lt _ e).1; simp at this; omega)
          have O8' : Hid (w8.ownsRow w.heap.size 3 1 (.slice a8 m c8) m ((xs.drop k).map (Value.int .i64))) := Lib.hid (row_wider o8 (by simp; omega))
          have P8 : Hid (w8.ownsRow w.heap.size 3 1 (.slice (some ⟨b, 0, none⟩) (k + 1) bc) (k + 1) ((upFrom N (k + 1)).map (Value.int .i64))) := Lib.hid (row_wider (row_kept HOQ.out g8 (fun q _ => by simp)) (by omega))
          have SEP : Hid (∀ q, (Value.slice a8 m c8).ownBlock = some q → q ≠ b) := Lib.hid (fun q hq => by have := (o8.lt _ hq).1; simp at this; omega)
          simp only [World.size_setCell] at z8
          clear o8 g8
          go_wp2
          refine bodyPost_ret (v := .tuple #[.agg #[.int .i64 (N + ((k : Int) + 1)), .int .i64 R, .slice a8 m c8], .slice (some ⟨b, 0, none⟩) (k + 1) bc, .bool true]) (by simp [results, Try.results29, go_sem, y0, y1, y2]) rfl ?_
          have hb := B8.out
          have hnb : (Value.slice (some ⟨b, 0, none⟩) (k + 1) bc).ownBlock ≠ some (w.heap.size + 1) := by simp [Value.ownBlock]; omega
          rw [HO3.out (by omega)]
          refine ⟨a8, c8, some ⟨b, 0, none⟩, bc, by rw [HDL.out, upFrom_len]; rfl, ?_, ?_, ?_, by go_grown⟩
          · rw [HDL.out]; exact row_set (row_set (row_set O8'.out _ _ LT8.out) _ _ LT8.out) _ _ LT8.out
          · rw [upFrom_len]; exact row_set (row_set (row_set P8.out _ _ hnb) _ _ hnb) _ _ hnb
          · rw [HDL.out]; intro q hq; simp only [Value.ownBlock]; intro e; injection e with e; exact SEP.out q hq e.symm
      · obtain rfl : m = 0 := by omega
        by_cases h5 : 100000 < N + ((k : Int) + 1)
        · go_wp2_with fail
          refine (c_cloneR N R a n cap xs _ HX.out (by omega) (H0.out.below BQ.out) HA.out).mono ?_; rintro e w8 ⟨a8, c8, rfl, o8, g8⟩
          rw [HX.out] at o8 ⊢
          have B8 : Hid (Below w.heap.size w w8) := Lib.hid (BQ.out.trans ((grown_below g8).mono (by simp; omega)))
          have z8 := g8.size
          obtain ⟨y0, y1, y2, fy⟩ := (BYQ.out.keep (grown_below g8)).three
          have LT8 : Hid ((Value.slice a8 n c8).ownBlock ≠ some (w.heap.size + 1)) := Lib.hid (fun e => by have := (o8.lt _ e).1; simp at this; omega)
          have O8' : Hid (w8.ownsRow w.heap.size 3 1 (.slice a8 n c8) n (xs.map (Value.int .i64))) := Lib.hid (row_wider o8 (by simp; omega))
          simp only [World.size_setCell] at z8
          clear o8 g8
          go_wp2
          refine bodyPost_ret (v := .tuple #[.agg #[.int .i64 N, .int .i64 R, .slice a8 n c8], .slice none 0 0, .bool false]) (by simp [results, Try.results29, go_sem, y0, y1, y2]) rfl ?_
          have hb := B8.out
          rw [HE2.out (by omega)]
          refine ⟨a8, c8, none, 0, by rw [HX.out]; rfl, ?_, row_nil _ _ _ _, fun k _ => by simp [Value.ownBlock], by go_grown⟩
          rw [HX.out]
          exact row_set (row_set (row_set O8'.out _ _ LT8.out) _ _ LT8.out) _ _ LT8.out
        · go_wp2_with fail
          refine (c_cloneR (N + ((k : Int) + 1)) R aa 0 cc (xs.drop k) _ HDL.out (by omega) IQ.out (fun h => ⟨rfl, (HAN.out h).2⟩)).mono ?_; rintro e w8 ⟨a8, c8, rfl, o8, g8⟩
          rw [HDL.out] at o8 ⊢
          have B8 : Hid (Below w.heap.size w w8) := Lib.hid (BQ.out.trans ((grown_below g8).mono (by simp; omega)))
          have z8 := g8.size
          obtain ⟨y0, y1, y2, fy⟩ := (BYQ.out.keep (grown_below g8)).three
          have LT8 : Hid ((Value.slice a8 0 c8).ownBlock ≠ some (w.heap.size + 1)) := Lib.hid (fun e => by have := (o8.lt _ e).1; simp at this; omega)
          have O8' : Hid (w8.ownsRow w.heap.size 3 1 (.slice a8 0 c8) 0 ((xs.drop k).map (Value.int .i64))) := Lib.hid (row_wider o8 (by simp; omega))
          have P8 : Hid (w8.ownsRow w.heap.size 3 1 (.slice (some ⟨b, 0, none⟩) (k + 1) bc) (k + 1) ((upFrom N (k + 1)).map (Value.int .i64))) := Lib.hid (row_wider (row_kept HOQ.out g8 (fun q _ => by simp)) (by omega))
          have SEP : Hid (∀ q, (Value.slice a8 0 c8).ownBlock = some q → q ≠ b) := Lib.hid (fun q hq => by have := (o8.lt _ hq).1; simp at this; omega)
          simp only [World.size_setCell] at z8
          clear o8 g8
          go_wp2
          refine bodyPost_ret (v := .tuple #[.agg #[.int .i64 (N + ((k : Int) + 1)), .int .i64 R, .slice a8 0 c8], .slice (some ⟨b, 0, none⟩) (k + 1) bc, .bool true]) (by simp [results, Try.results29, go_sem, y0, y1, y2]) rfl ?_
          have hb := B8.out
          have hnb : (Value.slice (some ⟨b, 0, none⟩) (k + 1) bc).ownBlock ≠ some (w.heap.size + 1) := by simp [Value.ownBlock]; omega
          rw [HO3.out (by omega)]
          refine ⟨a8, c8, some ⟨b, 0, none⟩, bc, by rw [HDL.out, upFrom_len]; rfl, ?_, ?_, ?_, by go_grown⟩
          · rw [HDL.out]; exact row_set (row_set (row_set O8'.out _ _ LT8.out) _ _ LT8.out) _ _ LT8.out
          · rw [upFrom_len]; exact row_set (row_set (row_set P8.out _ _ hnb) _ _ hnb) _ _ hnb
          · rw [HDL.out]; intro q hq; simp only [Value.ownBlock]; intro e; injection e with e; exact SEP.out q hq e.symm
theorem c_Receive (N R : Int) (a : Option Addr) (n cap : Nat) (xs : List Int) (x : Int) (w : World) (hxs : xs.length = n) (hn : n ≤ 1000000) (h : Ints w a xs) (ha : a = none → n = 0 ∧ cap = 0) :
    Calls Try.prog 29 #[.agg #[.int .i64 N, .int .i64 R, .slice a n cap], .int .i64 x] w (RetRc w (rcv N R xs x)) := by
  cases hv : rv N R xs
  · exact c_Rc_bad N R a n cap xs x w hxs hn h hv
  by_cases h1 : x < N
  · exact c_Rc_same N R a n cap xs x w hxs hn h ha hv (.inl h1)
  cases h2 : xs.contains x
  · by_cases h3 : N + R ≤ x
    · exact c_Rc_far N R a n cap xs x w hxs hn h ha hv h1 h2 h3
    · by_cases h4 : N < x
      · exact c_Rc_in N R a n cap xs x w hxs hn h ha hv h2 (by omega) h4
      · obtain rfl : x = N := by omega
        exact c_Rc_on x R a n cap xs w hxs hn h ha hv h2
  · exact c_Rc_same N R a n cap xs x w hxs hn h ha hv (.inr h2)
end Go.Proofs.Ytalalapjanckdaa
