/- Contracts of the verifier's small functions over pools: toHostS, eqHostS, markHostS, heldHostS, szHostS. No condition but the bounds that each states. -/
import Derived.Test.YtdkdfehlmphikaaZone
import Derived.Test.YtdkdfehlmphikaaMA
namespace Go.Proofs.Ytdkdfehlmphikaa
open Go.RowKit
theorem c_toHost (N W S : Int) (w : World) :
    Calls Try.prog 69 #[.agg #[.int .i64 N, .int .i64 W, .int .i64 S]] w fun e w' => e = .returned (.agg #[.int .i64 N, .int .i64 W, .int .i64 S]) ∧ Below w.heap.size w w' := by
  go_enter Try.func69, Try.ntmps69
  go_wp2
  go_returns
  exact ⟨rfl, by go_grown⟩
theorem c_eqHost (N W S : Int) (w : World) :
    Calls Try.prog 74 #[.agg #[.int .i64 N, .int .i64 W, .int .i64 S], .agg #[.int .i64 N, .int .i64 W, .int .i64 S]] w fun e w' => e = .returned (.bool true) ∧ Below w.heap.size w w' := by
  go_enter Try.func74, Try.ntmps74
  go_wp2
  go_ret
  exact ⟨rfl, by go_grown⟩
theorem held7_below {w0 w w' : World} {b1 o1 b2 o2 : Nat} {N W S : Int} (h : w.cell? ⟨b1, o1, none⟩ = some (.int .i64 N) ∧ w.cell? ⟨b1, o1 + 1, none⟩ = some (.int .i64 W) ∧ w.cell? ⟨b1, o1 + 2, none⟩ = some (.int .i64 S) ∧ w.cell? ⟨b2, o2, none⟩ = some (.int .i64 N) ∧ w.cell? ⟨b2, o2 + 1, none⟩ = some (.int .i64 W) ∧ w.cell? ⟨b2, o2 + 2, none⟩ = some (.int .i64 S) ∧ Below w0.heap.size w0 w) (hb : Below w.heap.size w w') :
    w'.cell? ⟨b1, o1, none⟩ = some (.int .i64 N) ∧ w'.cell? ⟨b1, o1 + 1, none⟩ = some (.int .i64 W) ∧ w'.cell? ⟨b1, o1 + 2, none⟩ = some (.int .i64 S) ∧ w'.cell? ⟨b2, o2, none⟩ = some (.int .i64 N) ∧ w'.cell? ⟨b2, o2 + 1, none⟩ = some (.int .i64 W) ∧ w'.cell? ⟨b2, o2 + 2, none⟩ = some (.int .i64 S) ∧ Below w0.heap.size w0 w' := by
  obtain ⟨h1, h2, h3, h4, h5, h6, h7⟩ := h
  have k : ∀ {p : Addr} {v : Value}, w.cell? p = some v → w'.cell? p = some v := fun h => (hb.cell (World.block_lt_of_cell? _ _ h)).trans h
  exact ⟨k h1, k h2, k h3, k h4, k h5, k h6, Below.step h7 hb h7.size⟩
set_option maxHeartbeats 1000000 in
theorem c_eqHostS (a b : Option Addr) (n ca cb : Nat) (hs : List H3) (w : World) (hxs : hs.length = n) (hn : n ≤ 1048576) (ha : Hosts w a hs) (hb : Hosts w b hs) :
    Calls Try.prog 29 #[.slice a n ca, .slice b n cb] w fun e w' => e = .returned (.bool true) ∧ Below w.heap.size w w' := by
  have HX := Lib.hid hxs
  have HA := Lib.hid ha
  have HB := Lib.hid hb
  clear hxs ha hb
  go_enter Try.func29, Try.ntmps29
  go_wp2
  go_loopw [5] (fun i wr => ∃ (k : Nat), k ≤ n ∧ i = .int .i64 k ∧ Below w.heap.size w wr) (fun i _ => n - (intOf i).toNat)
  case atStart => exact ⟨0, Nat.zero_le _, rfl, Below.refl _ _⟩
  case round =>
    obtain ⟨k, hk, rfl, hG⟩ := hrel
    have HG := Lib.hid hG
    clear hG
    by_cases hlt : k < n
    · obtain ⟨b1, off1, rfl, _, hc1⟩ := (HA.out.below HG.out).at HX.out hlt
      obtain ⟨b2, off2, rfl, _, hc2⟩ := (HB.out.below HG.out).at HX.out hlt
      obtain ⟨c0, c1, c2⟩ := hc1 k hlt
      obtain ⟨d0, d1, d2⟩ := hc2 k hlt
      clear hc1 hc2
      generalize (hs.getD k (0, 0, 0)).1 = N at *
      generalize (hs.getD k (0, 0, 0)).2.1 = W at *
      generalize (hs.getD k (0, 0, 0)).2.2 = S at *
      go_wp2
      have hH : wr.drew.cell? ⟨b1, off1 + k * 3, none⟩ = some (.int .i64 N) ∧ wr.drew.cell? ⟨b1, off1 + k * 3 + 1, none⟩ = some (.int .i64 W) ∧ wr.drew.cell? ⟨b1, off1 + k * 3 + 2, none⟩ = some (.int .i64 S) ∧ wr.drew.cell? ⟨b2, off2 + k * 3, none⟩ = some (.int .i64 N) ∧ wr.drew.cell? ⟨b2, off2 + k * 3 + 1, none⟩ = some (.int .i64 W) ∧ wr.drew.cell? ⟨b2, off2 + k * 3 + 2, none⟩ = some (.int .i64 S) ∧ Below w.heap.size w wr.drew := ⟨c0, c1, c2, d0, d1, d2, HG.out.drew⟩
      go_region_held3 (fun w' => w'.cell? ⟨b1, off1 + k * 3, none⟩ = some (.int .i64 N) ∧ w'.cell? ⟨b1, off1 + k * 3 + 1, none⟩ = some (.int .i64 W) ∧ w'.cell? ⟨b1, off1 + k * 3 + 2, none⟩ = some (.int .i64 S) ∧ w'.cell? ⟨b2, off2 + k * 3, none⟩ = some (.int .i64 N) ∧ w'.cell? ⟨b2, off2 + k * 3 + 1, none⟩ = some (.int .i64 W) ∧ w'.cell? ⟨b2, off2 + k * 3 + 2, none⟩ = some (.int .i64 S) ∧ Below w.heap.size w w') (first | assumption | exact held7_below (by assumption) (by assumption))
        (first
          | (go_at_call 74; (with_reducible refine (c_eqHost N W S _).mono ?_); rintro e w6 ⟨rfl, hb6⟩))
      rename_i held
      have HG6 := Lib.hid held.2.2.2.2.2.2
      clear held hH
      go_wp2
      go_roundw
      case rel => exact ⟨k + 1, by omega, by go_num, HG6.out⟩
      case measure => simp [intOf]; omega
    · go_wp2
      go_ret
      exact ⟨rfl, HG.out⟩
/-- A list of cells that reads host by host as hs is theirs. -/
theorem cells_eqH {C : List Value} {hs : List H3} (hl : C.length = hs.length * 3) (h : ∀ j, j < hs.length → C[j * 3]? = some (.int .i64 (hs.getD j (0, 0, 0)).1) ∧ C[j * 3 + 1]? = some (.int .i64 (hs.getD j (0, 0, 0)).2.1) ∧ C[j * 3 + 2]? = some (.int .i64 (hs.getD j (0, 0, 0)).2.2)) : C = hcells hs := by
  apply List.ext_getElem?
  intro i
  by_cases hi : i < hs.length * 3
  · have hj : i / 3 < hs.length := by omega
    obtain ⟨a, b, c⟩ := h (i / 3) hj
    obtain ⟨a', b', c'⟩ := hcells_get hs (i / 3) hj
    have h3 : i = i / 3 * 3 ∨ i = i / 3 * 3 + 1 ∨ i = i / 3 * 3 + 2 := by omega
    rcases h3 with h | h | h
    · rw [h, a, a']
    · rw [h, b, b']
    · rw [h, c, c']
  · rw [List.getElem?_eq_none (by omega), List.getElem?_eq_none (by rw [hcells_len]; omega)]
theorem infoHost : (Try.prog.info? 97).map (fun i => (i.zero, i.size, i.bytes)) = some (some (.agg #[.int .i64 0, .int .i64 0, .int .i64 0]), 3, 24) := by kernel_rfl
set_option maxHeartbeats 1000000 in
theorem c_toHostS (a : Option Addr) (n cap : Nat) (hs : List H3) (w : World) (hxs : hs.length = n) (hn : n ≤ 1048576) (h : Hosts w a hs) :
    Calls Try.prog 24 #[.slice a n cap] w (RetRow w 97 3 n (hcells hs)) := by
  obtain ⟨i0, hi, hz0, hz1, hz2⟩ := info_parts infoHost
  have HX := Lib.hid hxs
  have HI := Lib.hid h
  clear h hxs
  go_enter Try.func24, Try.ntmps24
  go_wp2_with (at_make; refine wpList_make_full _ rfl _ _ 23 rfl w.heap.size 97 i0 (.agg #[.int .i64 0, .int .i64 0, .int .i64 0]) 3 Try.underlying23 hi hz0 hz1 .i64 .i64 _ _ n rfl rfl rfl rfl ?c1 ?c2 ?c3 ?c4)
  case c1 => rw [hz2]; omega
  case c2 => unfold maxLen; omega
  case c3 => exact Nat.le_refl _
  case c4 =>
    intro w1 hown hgr
    have HO := Lib.hid hown
    have HG := Lib.hid hgr
    clear hown hgr
    go_wp2
    go_loopw [4] (fun i wr => ∃ (k : Nat) (C : List Value), k ≤ n ∧ i = .int .i64 k ∧ C.length = n * 3 ∧ (∀ j, j < k → C[j * 3]? = some (.int .i64 (hs.getD j (0, 0, 0)).1) ∧ C[j * 3 + 1]? = some (.int .i64 (hs.getD j (0, 0, 0)).2.1) ∧ C[j * 3 + 2]? = some (.int .i64 (hs.getD j (0, 0, 0)).2.2)) ∧ wr.ownsRow w.heap.size 97 3 (.slice (some ⟨w.heap.size, 0, none⟩) n n) n C ∧ Below w.heap.size w wr) (fun i _ => n - (intOf i).toNat)
    case atStart => exact ⟨0, _, Nat.zero_le _, rfl, row_len HO.out, fun j hj => by omega, HO.out, grown_below HG.out⟩
    case round =>
      obtain ⟨k, C, hk, rfl, hC, hCk, hown, hgr⟩ := hrel
      have HO := Lib.hid hown
      have HG := Lib.hid hgr
      have HK := Lib.hid hCk
      have HC := Lib.hid hC
      have hzz := hgr.size
      clear hown hgr hCk hC
      by_cases hlt : k < n
      · obtain ⟨b, off, rfl, hb, hc⟩ := (HI.out.below HG.out).at HX.out hlt
        obtain ⟨c0, c1, c2⟩ := hc k hlt
        clear hc
        have hg0 : hs.getD k (0, 0, 0) = ((hs.getD k (0, 0, 0)).1, (hs.getD k (0, 0, 0)).2.1, (hs.getD k (0, 0, 0)).2.2) := rfl
        have HG0 := Lib.hid hg0
        clear hg0
        generalize hN : (hs.getD k (0, 0, 0)).1 = N at *
        generalize hW : (hs.getD k (0, 0, 0)).2.1 = W at *
        generalize hS : (hs.getD k (0, 0, 0)).2.2 = S at *
        have HNWS := Lib.hid (And.intro hN (And.intro hW hS))
        clear hN hW hS
        go_wp2_with fail
        refine (c_toHost N W S _).mono ?_; rintro e w2 ⟨rfl, b2⟩
        have HO2 := Lib.hid (row_below HO.out b2)
        have HG2 := Lib.hid (Below.step HG.out b2 hzz)
        clear b2 c0 c1 c2
        have hl3 : C.length = n * 3 := HC.out
        have e0 := HO2.out.cellAt (k * 3) (by omega)
        have e1 := HO2.out.cellAt (k * 3 + 1) (by omega)
        have e2 := HO2.out.cellAt (k * 3 + 2) (by omega)
        rw [List.getElem?_eq_getElem (by omega)] at e0 e1 e2
        have f0 := HO2.out.frozenAt (k * 3)
        have f1 := HO2.out.frozenAt (k * 3 + 1)
        have f2 := HO2.out.frozenAt (k * 3 + 2)
        have HS3 := Lib.hid ((((HO2.out.stored (k * 3) (.int .i64 N)).1.stored (k * 3 + 1) (.int .i64 W)).1.stored (k * 3 + 2) (.int .i64 S)).1)
        generalize C[k * 3]'(by omega) = v0 at e0
        generalize C[k * 3 + 1]'(by omega) = v1 at e1
        generalize C[k * 3 + 2]'(by omega) = v2 at e2
        clear hl3
        go_wp2
        go_roundw
        case rel =>
          refine ⟨k + 1, ((C.set (k * 3) (.int .i64 N)).set (k * 3 + 1) (.int .i64 W)).set (k * 3 + 2) (.int .i64 S), by omega, by go_num, by simp [HC.out], fun j hj => ?_, HS3.out, ((HG2.out.setCell (by simp) _).setCell (by simp) _).setCell (by simp) _⟩
          by_cases hjk : j = k
          · subst hjk
            obtain ⟨q1, q2, q3⟩ := HNWS.out
            rw [q1, q2, q3]
            have hl3 := HC.out
            refine ⟨?_, ?_, ?_⟩
            · rw [List.getElem?_set_ne (by omega), List.getElem?_set_ne (by omega), List.getElem?_set_self (by omega)]
            · rw [List.getElem?_set_ne (by omega), List.getElem?_set_self (by simp; omega)]
            · rw [List.getElem?_set_self (by simp; omega)]
          · obtain ⟨q1, q2, q3⟩ := HK.out j (by omega)
            refine ⟨?_, ?_, ?_⟩
            · rw [List.getElem?_set_ne (by omega), List.getElem?_set_ne (by omega), List.getElem?_set_ne (by omega)]; exact q1
            · rw [List.getElem?_set_ne (by omega), List.getElem?_set_ne (by omega), List.getElem?_set_ne (by omega)]; exact q2
            · rw [List.getElem?_set_ne (by omega), List.getElem?_set_ne (by omega), List.getElem?_set_ne (by omega)]; exact q3
        case measure => simp [intOf]; omega
      · obtain rfl : k = n := by omega
        go_wp2
        go_ret
        have hx := HX.out
        subst hx
        have := HO.out
        rw [cells_eqH HC.out HK.out] at this
        exact ⟨_, _, rfl, this, below_grown HG.out⟩
end Go.Proofs.Ytdkdfehlmphikaa
