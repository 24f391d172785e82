/- slices.DeleteFunc at entries: the walk. No condition but lists of at most 2^20 entries. -/
import Derived.Test.YtdkdfehlmphikaaTabD
namespace Go.Proofs.Ytdkdfehlmphikaa
open Go.RowKit
theorem keep_all {p : E7 → Bool} {es : List E7} (h : ∀ j, j < es.length → p (es.getD j e0) = false) : es.filter (fun e => !p e) = es := by
  rw [List.filter_eq_self]
  intro x hx
  obtain ⟨j, hj, rfl⟩ := List.getElem_of_mem hx
  have := h j hj
  rw [List.getD_eq_getElem?_getD, List.getElem?_eq_getElem hj] at this
  simpa using this
theorem take_one {es : List E7} {k n : Nat} (hl : es.length = n) (hk : k < n) : es.take (k + 1) = es.take k ++ [es.getD k e0] := by
  have : es[k]? = some (es.getD k e0) := by rw [List.getD_eq_getElem?_getD, List.getElem?_eq_getElem (by omega)]; rfl
  rw [List.take_add_one, this]; rfl
/-- Where DeleteFunc stands: those kept of the first j stand ahead of place i; from j on all is as it was. -/
structure Mid (p : E7 → Bool) (es ds : List E7) (i j : Nat) : Prop where
  lt : i < j
  le : j ≤ es.length
  size : ds.length = es.length
  low : ds.take i = (es.take j).filter (fun e => !p e)
  high : ∀ t, j ≤ t → t < es.length → ds.getD t e0 = es.getD t e0
theorem Mid.start {p : E7 → Bool} {es : List E7} {k : Nat} (hk : k < es.length) (h1 : p (es.getD k e0) = true) (h2 : ∀ j, j < k → p (es.getD j e0) = false) : Mid p es es k (k + 1) := by
  refine ⟨by omega, by omega, rfl, ?_, fun t _ _ => rfl⟩
  rw [take_one rfl hk, List.filter_append]
  have : (es.take k).filter (fun e => !p e) = es.take k := by
    apply keep_all
    intro j hj
    rw [List.length_take] at hj
    have := h2 j (by omega)
    rw [List.getD_eq_getElem?_getD, List.getElem?_take, if_pos (by omega), ← List.getD_eq_getElem?_getD]
    exact this
  rw [this]
  simp [-List.getD_eq_getElem?_getD, h1]
theorem Mid.skip {p : E7 → Bool} {es ds : List E7} {i j : Nat} (h : Mid p es ds i j) (hj : j < es.length) (hp : p (es.getD j e0) = true) : Mid p es ds i (j + 1) := by
  refine ⟨by have := h.lt; omega, by omega, h.size, ?_, fun t h1 h2 => h.high t (by omega) h2⟩
  rw [h.low, take_one rfl hj, List.filter_append]
  simp [-List.getD_eq_getElem?_getD, hp]
theorem Mid.keepIt {p : E7 → Bool} {es ds : List E7} {i j : Nat} (h : Mid p es ds i j) (hj : j < es.length) (hp : p (es.getD j e0) = false) : Mid p es (ds.set i (es.getD j e0)) (i + 1) (j + 1) := by
  have hlt := h.lt
  have hs := h.size
  refine ⟨by omega, by omega, by simp [h.size], ?_, fun t h1 h2 => ?_⟩
  · have e1 : (ds.set i (es.getD j e0)).take (i + 1) = ds.take i ++ [es.getD j e0] := by
      rw [take_one (n := ds.length) (by simp) (by omega), List.take_set_of_le (by omega)]
      congr 2
      rw [List.getD_eq_getElem?_getD, List.getElem?_set_self (by omega)]; rfl
    rw [e1, h.low, take_one rfl hj, List.filter_append]
    simp [-List.getD_eq_getElem?_getD, hp]
  · rw [← h.high t (by omega) h2, List.getD_eq_getElem?_getD, List.getElem?_set_ne (by omega), ← List.getD_eq_getElem?_getD]
theorem Mid.done {p : E7 → Bool} {es ds : List E7} {i : Nat} (h : Mid p es ds i es.length) : ds.take i = es.filter (fun e => !p e) ∧ (es.filter (fun e => !p e)).length = i := by
  have h1 := h.low
  rw [List.take_length] at h1
  refine ⟨h1, ?_⟩
  rw [← h1, List.length_take]
  have := h.lt
  have := h.size
  omega
theorem Ents.setTail {w : World} {g o : Nat} {ks : List E7} (h : Ents w (some ⟨g, 0, none⟩) ks) (ho : ks.length * 7 ≤ o) (vs : List Value) : Ents (w.setCells g o vs) (some ⟨g, 0, none⟩) ks := by
  rcases h with h | ⟨b, off, ha, hb, hc⟩
  · exact .inl h
  · cases ha
    refine .inr ⟨g, 0, rfl, Nat.lt_of_lt_of_le hb (gb_setCells w g vs o w (World.grownBy.refl _ _)).size, fun i hi => ?_⟩
    rw [World.cell?_setCells_out g vs o w _ (fun _ _ => .inl (by rw [eInts_len] at hi; show 0 + i < o; omega))]
    exact hc i hi
/-- What DeleteFunc hands back: the slice cut to what is kept. -/
def RetDel (w : World) (a : Option Addr) (cap : Nat) (r : Option Nat) (ks : List E7) (e : Ending) (w' : World) : Prop :=
  e = .returned (.slice a ks.length cap) ∧ Ents w' a ks ∧ w.grownBy w' r
theorem c_IndexN (F : Nat) (cl : Array Value) (w : World) :
    Calls Try.prog 102 #[.slice none 0 0, .func (.func F) #[] cl] w fun e w' => e = .returned (.int .i64 (-1)) ∧ Below w.heap.size w w' := by
  go_enter Try.func102, Try.ntmps102
  go_wp2
  go_loop [8] (fun i => i = .int .i64 0) (fun _ => 0)
  case atStart => rfl
  case round =>
    subst hrel
    go_wp2
    go_ret
    exact ⟨rfl, Below.refl _ _⟩
set_option maxRecDepth 100000 in
set_option maxHeartbeats 4000000 in
theorem c_DeleteE' (F : Nat) (cl : Array Value) (p : E7 → Bool) (base g : Nat) (n cap : Nat) (es : List E7) (w : World) (hn : n ≤ 1048576) (h : EntRow w base (some ⟨g, 0, none⟩) n cap es) (ht : Tests F cl p es w (some g))
    (eg : ∀ args w, (callFunc F args).run Try.prog w = .ok (.enter F args) w) :
    Calls Try.prog 84 #[.slice (some ⟨g, 0, none⟩) n cap, .func (.func F) #[] cl] w (RetDel w (some ⟨g, 0, none⟩) cap (some g) (es.filter (fun e => !p e))) := by
  have hxs := h.len
  have HX := Lib.hid hxs
  have HO := Lib.hid h
  have HT := Lib.hid ht
  have hcp := (row_cap h)
  have hgw : g < w.heap.size := (h.lt g rfl).2
  have HIX := Lib.hid (c_IndexE F cl p (some g) (some ⟨g, 0, none⟩) n cap es w hxs hn h.ents ht eg)
  rcases ixP_cases p es with ⟨hi, hall⟩ | ⟨k0, hi, hk0, hk1, hk2⟩
  · have HK := Lib.hid (keep_all (p := p) (es := es) hall)
    rw [hi] at HIX
    clear hxs h ht hall hi
    go_enter Try.func84, Try.ntmps84
    go_wp2_with (go_at_call 102; refine HIX.out.mono ?_; rintro e w' ⟨rfl, hb⟩)
    go_ret
    refine ⟨?_, ?_, grown_any (below_grown hb)⟩
    · rw [HK.out, HX.out]; rfl
    · rw [HK.out]; exact HO.out.ents.below hb
  · have HM := Lib.hid (Mid.start hk0 hk1 hk2)
    rw [hi] at HIX
    have hk0' : k0 < n := by rw [← HX.out]; exact hk0
    have hne1 : ((k0 : Int) == -1) = false := beq_eq_false_iff_ne.2 (by omega)
    clear hxs h ht hk0 hk1 hk2 hi
    go_enter Try.func84, Try.ntmps84
    go_wp2_with (go_at_call 102; refine HIX.out.mono ?_; rintro e w' ⟨rfl, hb⟩)
    have HB := Lib.hid hb
    clear hb HIX
    go_loopw [5, 6] (fun s i wr => ∃ (m j : Nat) (ds : List E7), j ≤ n ∧ s = .int .i64 m ∧ i = .int .i64 j ∧ EntRow wr base (some ⟨g, 0, none⟩) n cap ds ∧ w.grownBy wr (some g) ∧ Hid (Mid p es ds m j)) (fun _ i _ => n - (intOf i).toNat)
    case atStart => exact ⟨k0, k0 + 1, es, by omega, rfl, by go_num, row_below HO.out HB.out, grown_any (below_grown HB.out), HM⟩
    case round =>
      obtain ⟨m, j, ds, hj, rfl, rfl, hO, hG, HM'⟩ := hrel
      have HO' := Lib.hid hO
      have HG := Lib.hid hG
      have hz := hG.size
      have hmj := HM'.out.lt
      clear hO hG
      by_cases hlt : j < n
      · obtain ⟨⟨c0, c1, c2, c3, c4, c5, c6⟩, fc⟩ := HO'.out.cells (k := j) hlt
        have hgd := HM'.out.high j (Nat.le_refl _) (by rw [HX.out]; exact hlt)
        rw [hgd] at c0 c1 c2 c3 c4 c5 c6
        have HS := Lib.hid (fun hp => HM'.out.skip (by rw [HX.out]; exact hlt) hp)
        have HP := Lib.hid (fun hp => HM'.out.keepIt (by rw [HX.out]; exact hlt) hp)
        have HTT := fun w' => HT.out (es.getD j e0) w' (getD_mem7 (by rw [HX.out]; exact hlt))
        have HHT := Lib.hid HTT
        clear hgd HTT fc
        generalize es.getD j e0 = E at *
        obtain ⟨⟨x0, x1, x2, x3, x4⟩, x5, x6⟩ := E
        dsimp only at c0 c1 c2 c3 c4 c5 c6
        obtain ⟨W, hW⟩ : ∃ W, W = wr.alloc (.cells #[.int .i64 x0, .int .i64 x1, .int .i64 x2, .int .i64 x3, .int .i64 x4, .int .i64 x5, .int .i64 x6] 69) := ⟨_, rfl⟩
        have hGW : w.grownBy W (some g) := by rw [hW]; exact gb_al HG.out _
        have hEW : Box W wr.heap.size 69 [.int .i64 x0, .int .i64 x1, .int .i64 x2, .int .i64 x3, .int .i64 x4, .int .i64 x5, .int .i64 x6] := by rw [hW]; exact Box.new _ _ _
        have hOW : EntRow W base (some ⟨g, 0, none⟩) n cap ds := by rw [hW]; exact row_below HO'.out ((Below.refl _ _).alloc (Nat.le_refl _) _)
        have hcall := HHT.out W hGW
        dsimp only at hcall
        have HW := Lib.hid hW
        have HGW := Lib.hid hGW
        have HEW := Lib.hid hEW
        have HOW := Lib.hid hOW
        clear hW hGW hEW hOW HHT
        cases hq : p ((x0, x1, x2, x3, x4), x5, x6)
        · rw [hq] at hcall
          have HP2 := Lib.hid (HP.out hq)
          clear hq HP HS
          have HC := Lib.hid hcall
          clear hcall
          go_wp2_with fail
          rw [← HW.out]
          refine HC.out.mono ?_
          rintro e w6 ⟨rfl, hb6⟩
          have HB6 := Lib.hid hb6
          have HO6 : Hid (EntRow w6 base (some ⟨g, 0, none⟩) n cap ds) := Lib.hid (row_below HOW.out hb6)
          obtain ⟨v0, v1, v2, v3, v4, v5, v6, fv6⟩ := (HEW.out.keep hb6).seven
          clear hb6 c0 c1 c2 c3 c4 c5 c6
          obtain ⟨⟨d0, d1, d2, d3, d4, d5, d6⟩, fd⟩ := HO6.out.cells (k := m) (by omega)
          have HPUT := Lib.hid (HO6.out.put (i := m) (by omega) ((x0, x1, x2, x3, x4), x5, x6))
          generalize ds.getD m e0 = E2 at *
          obtain ⟨⟨z0, z1, z2, z3, z4⟩, z5, z6⟩ := E2
          dsimp only at d0 d1 d2 d3 d4 d5 d6
          go_wp2
          go_roundw
          case rel =>
            obtain ⟨q1, q2⟩ := HPUT.out
            exact ⟨m + 1, j + 1, _, by omega, by go_num, by go_num, q1, grownBy_tr HGW.out (grownBy_tr (grown_any (below_grown HB6.out)) q2), HP2⟩
          case measure => simp [intOf]; omega
        · rw [hq] at hcall
          have HS2 := Lib.hid (HS.out hq)
          clear hq HP HS
          have HC := Lib.hid hcall
          clear hcall
          go_wp2_with fail
          rw [← HW.out]
          refine HC.out.mono ?_
          rintro e w6 ⟨rfl, hb6⟩
          have HB6 := Lib.hid hb6
          have HO6 : Hid (EntRow w6 base (some ⟨g, 0, none⟩) n cap ds) := Lib.hid (row_below HOW.out hb6)
          clear hb6 c0 c1 c2 c3 c4 c5 c6
          go_wp2
          go_roundw
          case rel => exact ⟨m, j + 1, ds, by omega, rfl, by go_num, HO6.out, grownBy_tr HGW.out (grown_any (below_grown HB6.out)), HS2⟩
          case measure => simp [intOf]; omega
      · obtain rfl : j = n := by omega
        have HD := Lib.hid (HM'.out)
        have hmn : m < j := by omega
        have hcl : ∀ ty, (Builtin.clear_ #[28] ty #[.slice (some ⟨g, m * 7, none⟩) (j - m) (cap - m)]).run Try.prog wr = .ok (.tuple #[]) (wr.setCells g (m * 7) (List.replicate ((j - m) * 7) (.int .i64 0))) := fun ty => by
          have hrl := row_len HO'.out
          refine run_clearE wr ty g (m * 7) (j - m) (cap - m) (by omega) (fun t ht => ?_) (fun t _ => HO'.out.frozenAt _)
          rw [HO'.out.cellAt (m * 7 + t) (by omega), List.getElem?_eq_getElem (by omega)]; rfl
        have hmc : m ≤ cap := by omega
        have hmc2 : ¬ m = cap := by omega
        have hmc3 : ¬ cap = m := by omega
        have HRL := Lib.hid HX.out
        clear hcp
        go_wp2
        go_ret
        have hdn := HD.out
        rw [← HRL.out] at hdn
        obtain ⟨h1, h2⟩ := hdn.done
        refine ⟨by rw [h2]; rfl, ?_, grownBy_tr HG.out (gb_setCells _ g _ _ _ (World.grownBy.refl _ _))⟩
        rw [← h1]
        exact (HO'.out.ents.take m).setTail (by rw [List.length_take]; have := Nat.min_le_left m ds.length; omega) _
theorem c_DeleteNil (F : Nat) (cl : Array Value) (w : World) :
    Calls Try.prog 84 #[.slice none 0 0, .func (.func F) #[] cl] w (RetDel w none 0 none []) := by
  have HIX := Lib.hid (c_IndexN F cl w)
  go_enter Try.func84, Try.ntmps84
  go_wp2_with (go_at_call 102; refine HIX.out.mono ?_; rintro e w' ⟨rfl, hb⟩)
  go_ret
  exact ⟨rfl, .inl rfl, below_grown hb⟩
theorem c_DeleteE (F : Nat) (cl : Array Value) (p : E7 → Bool) (base : Nat) (a : Option Addr) (n cap : Nat) (es : List E7) (w : World) (hn : n ≤ 1048576) (h : EntRow w base a n cap es) (ht : Tests F cl p es w (Value.slice a n cap).ownBlock)
    (eg : ∀ args w, (callFunc F args).run Try.prog w = .ok (.enter F args) w) :
    Calls Try.prog 84 #[.slice a n cap, .func (.func F) #[] cl] w (RetDel w a cap (Value.slice a n cap).ownBlock (es.filter (fun e => !p e))) := by
  rcases h.2 with ⟨h1, h2⟩ | ⟨g, c, cur, h1, _⟩
  · injection h1 with h3 h4 h5
    subst h3 h4 h5
    have : es = [] := List.eq_nil_of_length_eq_zero h.len
    subst this
    exact c_DeleteNil F cl w
  · injection h1 with h3 _ h5
    subst h3 h5
    exact c_DeleteE' F cl p base g n cap es w hn h ht eg
end Go.Proofs.Ytdkdfehlmphikaa
