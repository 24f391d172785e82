/- The reader of the verifier's draws: l20Open, pick, odd: whatever is drawn lies in the range that is asked. No condition but a reader that is read less than a million times. -/
import Derived.Test.YtalalapjanckdaaReg
import Derived.Laws.BitsAllLaws
namespace Go.Proofs.Ytalalapjanckdaa
open Go.RowKit
variable {D : Nat}
/-- The block g is a reader at position p. -/
def Rd (D : Nat) (w : World) (g : Nat) (p : Nat) : Prop :=
  D ≤ g ∧ ∃ a len cap, w.heap[g]? = some (.cells #[.slice a len cap, .int .i64 p] 96 (0, 0)) ∧ len ≤ 2000 ∧
    (len = 0 ∨ ∃ b off, a = some ⟨b, off, none⟩ ∧ b < D ∧ b < w.heap.size ∧ ∀ i, i < len → ∃ x : Int, w.cell? ⟨b, off + i, none⟩ = some (.int .u8 x) ∧ 0 ≤ x ∧ x ≤ 255)
theorem Rd.lt {w : World} {g p : Nat} (h : Rd D w g p) : g < w.heap.size := by
  obtain ⟨_, a, len, cap, h1, _⟩ := h
  rcases Nat.lt_or_ge g w.heap.size with h' | h'
  · exact h'
  · rw [Array.getElem?_eq_none h'] at h1; cases h1
/-- The reader stands in a world in which at most new blocks have come. -/
theorem Rd.keep {w w' : World} {g p : Nat} (h : Rd D w g p) (hb : w.grownBy w' none) : Rd D w' g p := by
  have hlt := h.lt
  obtain ⟨hDg, a, len, cap, h1, h2, h3⟩ := h
  refine ⟨hDg, a, len, cap, (hb.block g hlt (by simp)).trans h1, h2, h3.imp id ?_⟩
  rintro ⟨b, off, ha, hne, hlt2, hc⟩
  exact ⟨b, off, ha, hne, Nat.lt_of_lt_of_le hlt2 hb.size, fun i hi => by
    obtain ⟨x, hx, hx2⟩ := hc i hi
    exact ⟨x, (World.cell?_of_block (hb.block b hlt2 (by simp))).trans hx, hx2⟩⟩
/-- A number of lo..hi is drawn; the reader stands one further; besides the reader nothing that was there has turned. -/
def RetPick (D : Nat) (w : World) (g p : Nat) (n : Int) (e : Ending) (w' : World) : Prop :=
  ∃ x : Int, e = .returned (.int .i64 x) ∧ 0 ≤ x ∧ (1 ≤ n → x < n) ∧ (n < 1 → x = 0) ∧ Rd D w' g (p + 1) ∧ w.grownBy w' (some g)
theorem grownBy_set (w : World) (g i : Nat) (u : Value) : w.grownBy (w.setCell ⟨g, i, none⟩ u) (some g) :=
  ⟨rfl, rfl, rfl, by simp, fun k _ hk => heap_setCell_other w ⟨g, i, none⟩ k u (fun e => hk (by simp [e]))⟩
theorem grownBy_drewN {a w : World} {r : Option Nat} (h : a.grownBy w r) (n : Nat) : a.grownBy (w.drewN n) r := grownBy_tr h ⟨rfl, rfl, rfl, Nat.le_refl _, fun _ _ _ => rfl⟩
theorem Rd.step {w : World} {g p : Nat} (h : Rd D w g p) : Rd D (w.setCell ⟨g, 1, none⟩ (.int .i64 ((p + 1 : Nat) : Int))) g (p + 1) := by
  obtain ⟨hDg, a, len, cap, h1, h2, h3⟩ := h
  refine ⟨hDg, a, len, cap, ?_, h2, h3.imp id ?_⟩
  · rw [heap_setCell_same w g 1 _ _ _ h1]; rfl
  · rintro ⟨b, off, ha, hne, hlt2, hc⟩
    exact ⟨b, off, ha, hne, by simpa using hlt2, fun i hi => by
      obtain ⟨x, hx, hx2⟩ := hc i hi
      exact ⟨x, (World.cell?_of_block (heap_setCell_other w ⟨g, 1, none⟩ b _ (by simp only []; omega))).trans hx, hx2⟩⟩
/-- A store into a block of one's own that is not the reader's. -/
theorem Rd.other {w : World} {g p b : Nat} (h : Rd D w g p) (hD : D ≤ b) (hb : b ≠ g) (i : Nat) (u : Value) : Rd D (w.setCell ⟨b, i, none⟩ u) g p := by
  obtain ⟨hDg, a, len, cap, h1, h2, h3⟩ := h
  refine ⟨hDg, a, len, cap, (heap_setCell_other w ⟨b, i, none⟩ g u (fun e => hb e.symm)).trans h1, h2, h3.imp id ?_⟩
  rintro ⟨c, off, ha, hne, hlt2, hc⟩
  exact ⟨c, off, ha, hne, by simpa using hlt2, fun j hj => by
    obtain ⟨x, hx, hx2⟩ := hc j hj
    exact ⟨x, (World.cell?_of_block (heap_setCell_other w ⟨b, i, none⟩ c u (by simp only []; omega))).trans hx, hx2⟩⟩
theorem Rd.drewN {w : World} {g p : Nat} (h : Rd D w g p) (n : Nat) : Rd D (w.drewN n) g p := h
theorem xor_small (a b : Int) (h1 : 0 ≤ a) (h2 : a ≤ 4000000000) (h3 : 0 ≤ b) (h4 : b ≤ 4000000000) : 0 ≤ bits .xor .i64 a b ∧ bits .xor .i64 a b < 4294967296 := by
  obtain ⟨m, rfl⟩ := Int.eq_ofNat_of_zero_le h1
  obtain ⟨k, rfl⟩ := Int.eq_ofNat_of_zero_le h3
  have hx : m ^^^ k < 2 ^ 32 := Nat.xor_lt_two_pow (by omega) (by omega)
  have e1 : (BitVec.ofInt 64 (m : Int)).toNat = m := by
    rw [BitVec.ofInt_natCast, BitVec.toNat_ofNat]; exact Nat.mod_eq_of_lt (by omega)
  have e2 : (BitVec.ofInt 64 (k : Int)).toNat = k := by
    rw [BitVec.ofInt_natCast, BitVec.toNat_ofNat]; exact Nat.mod_eq_of_lt (by omega)
  have e3 : bits .xor .i64 (m : Int) (k : Int) = ((m ^^^ k : Nat) : Int) := by
    show IntKind.i64.wrap ((BitVec.ofInt 64 (m : Int) ^^^ BitVec.ofInt 64 (k : Int)).toNat : Int) = _
    rw [BitVec.toNat_xor, e1, e2]
    exact IntWalk.i64_in _ (by omega)
  rw [e3]
  omega
set_option maxHeartbeats 1000000 in
theorem c_pick (g p : Nat) (n : Int) (w : World) (h : Rd D w g p) (hp : p ≤ 1000000) (n1 : -1000000000 ≤ n) (n2 : n ≤ 1000000000) :
    Calls Try.prog 48 #[.pointer (some ⟨g, 0, none⟩), .int .i64 n] w (RetPick D w g p n) := by
  have HS := Lib.hid h.step
  obtain ⟨hDg, a, len, cap, h1, h2, h3⟩ := h
  have HG := Lib.hid (grownBy_set w g 1 (.int .i64 ((p + 1 : Nat) : Int)))
  have ec : ((p + 1 : Nat) : Int) = (p : Int) + 1 := by omega
  rw [ec] at HS HG
  clear ec
  have c0 := cell_of_row w g 0 _ _ _ h1
  have c1 := cell_of_row w g 1 _ _ _ h1
  have f0 := frozen_of_row w g 0 _ _ h1
  have f1 := frozen_of_row w g 1 _ _ h1
  simp only [List.getElem?_toArray, List.getElem?_cons_zero, List.getElem?_cons_succ] at c0 c1
  have HH := Lib.hid h1
  clear h1
  by_cases hn : n < 1
  · clear h3
    go_enter Try.func48, Try.ntmps48
    go_wp2
    go_ret
    exact ⟨0, rfl, Int.le_refl _, fun h => by omega, fun _ => rfl, HS.out, HG.out⟩
  by_cases hl : len = 0
  · subst hl
    clear h3
    go_enter Try.func48, Try.ntmps48
    go_wp2
    go_ret
    exact ⟨0, rfl, Int.le_refl _, fun h => by omega, fun _ => rfl, HS.out, HG.out⟩
  have hn' : 1 ≤ n := by omega
  have hl0 : 0 < len := by omega
  have hl' : ((len : Int) == 0) = false := by simp; omega
  rcases h3 with h3 | ⟨b, off, rfl, hne, hlt, hcell⟩
  · exact absurd h3 hl
  have hne' : g ≠ b := by omega
  have hne'' : b ≠ g := by omega
  have HC := Lib.hid hcell
  clear hcell
  by_cases hpl : p < len
  · obtain ⟨x, hx, x1, x2⟩ := HC.out p hpl
    go_enter Try.func48, Try.ntmps48
    go_wp2
    go_ret
    refine ⟨x % n, ?_, Int.emod_nonneg _ (by omega), fun _ => Int.emod_lt_of_pos _ (by omega), fun h => by omega, HS.out, HG.out⟩
    rfl
  · have hm1 : p % len < len := Nat.mod_lt _ hl0
    have hm2 : (p * 7 + 3) % len < len := Nat.mod_lt _ hl0
    obtain ⟨x, hx, x1, x2⟩ := HC.out (p % len) hm1
    obtain ⟨y, hy, y1, y2⟩ := HC.out ((p * 7 + 3) % len) hm2
    have i1 : 0 ≤ (p : Int) % (len : Int) := Int.emod_nonneg _ (by omega)
    have i2 : (p : Int) % (len : Int) < (len : Int) := Int.emod_lt_of_pos _ (by omega)
    have i3 : 0 ≤ ((p : Int) * 7 + 3) % (len : Int) := Int.emod_nonneg _ (by omega)
    have i4 : ((p : Int) * 7 + 3) % (len : Int) < (len : Int) := Int.emod_lt_of_pos _ (by omega)
    have t1 : ((p : Int) % (len : Int)).toNat = p % len := by omega
    have t2 : (((p : Int) * 7 + 3) % (len : Int)).toNat = (p * 7 + 3) % len := by
      have : ((p : Int) * 7 + 3) % (len : Int) = (((p * 7 + 3) % len : Nat) : Int) := by simp
      rw [this]; rfl
    have d1 : 0 ≤ (p : Int) / (len : Int) := Int.ediv_nonneg (by omega) (by omega)
    have d2 : (p : Int) / (len : Int) ≤ 1000000 := Int.le_trans (Int.ediv_le_self _ (by omega)) (by omega)
    clear hm1 hm2
    go_enter Try.func48, Try.ntmps48
    go_wp2
    go_quiet (fail)
    go_wp2
    obtain ⟨q0, _⟩ := xor_small (x * 131 + y * 1117 + (p : Int) * 29 + (p : Int) / (len : Int) * 53) ((x * 131 + y * 1117 + (p : Int) * 29 + (p : Int) / (len : Int) * 53) / 64) (by omega) (by omega) (by omega) (by omega)
    generalize bits BinOp.xor IntKind.i64 (x * 131 + y * 1117 + (p : Int) * 29 + (p : Int) / (len : Int) * 53) ((x * 131 + y * 1117 + (p : Int) * 29 + (p : Int) / (len : Int) * 53) / 64) = B at q0 ⊢
    go_ret
    refine ⟨_, rfl, ?_, fun _ => ?_, fun h => by omega, HS.out.drewN _, grownBy_drewN HG.out _⟩
    · first | exact Int.tmod_nonneg _ q0 | exact Int.emod_nonneg _ (by omega)
    · first | exact Int.tmod_lt_of_pos _ (by omega) | exact Int.emod_lt_of_pos _ (by omega)
/-- A bool is drawn. -/
def RetOdd (D : Nat) (w : World) (g p : Nat) (e : Ending) (w' : World) : Prop :=
  ∃ b : Bool, e = .returned (.bool b) ∧ (∃ p', p' ≤ p + 1 ∧ Rd D w' g p') ∧ w.grownBy w' (some g)
theorem c_odd (g p : Nat) (n : Int) (w : World) (h : Rd D w g p) (hp : p ≤ 1000000) (n1 : -1000000 ≤ n) (n2 : n ≤ 1000000) :
    Calls Try.prog 72 #[.pointer (some ⟨g, 0, none⟩), .int .i64 n] w (RetOdd D w g p) := by
  have HR := Lib.hid h
  clear h
  by_cases hn : 0 < n
  · go_enter Try.func72, Try.ntmps72
    go_wp2_with fail
    refine (c_pick g p n _ HR.out hp (by omega) (by omega)).mono ?_; rintro e w' ⟨x, rfl, x0, x1, x2, hr, hg⟩
    have HR' := Lib.hid hr
    have HG := Lib.hid hg
    clear hr hg x1 x2
    go_wp2_with fail
    all_goals
      go_ret
      exact ⟨_, rfl, ⟨p + 1, Nat.le_refl _, HR'.out⟩, HG.out⟩
  · go_enter Try.func72, Try.ntmps72
    go_wp2_with fail
    go_ret
    exact ⟨_, rfl, ⟨p, by omega, HR.out⟩, grownBy_rfl _ _⟩
/-- A new reader over bytes that came in. -/
def RetRd (D : Nat) (w : World) (e : Ending) (w' : World) : Prop := ∃ g, e = .returned (.pointer (some ⟨g, 0, none⟩)) ∧ w.heap.size ≤ g ∧ Rd D w' g 0 ∧ Below w.heap.size w w'
theorem IsRow.bytes {w : World} {a : Option Addr} {len cap : Nat} {zs : List Int} (h : IsRow .u8 w a len cap zs) : len = 0 ∨ ∃ b off, a = some ⟨b, off, none⟩ ∧ b < w.heap.size ∧ ∀ i, i < len → ∃ x : Int, w.cell? ⟨b, off + i, none⟩ = some (.int .u8 x) ∧ 0 ≤ x ∧ x ≤ 255 := by
  rcases h with ⟨rfl, rfl, rfl, rfl⟩ | ⟨⟨b, off, spot⟩, rfl, hl, hm, hz, hc, hw⟩
  · exact .inl rfl
  · by_cases h0 : len = 0
    · exact .inl h0
    · have h1 := hc 0 (by omega)
      have hs : spot = none := by simpa [Addr.add] using World.cell?_spot h1
      subst hs
      refine .inr ⟨b, off, rfl, World.block_lt_of_cell? w _ h1, fun i hi => ?_⟩
      have h2 := hc i (by omega)
      have ea : (⟨b, off, none⟩ : Addr).add i = ⟨b, off + i, none⟩ := by
        unfold Addr.add
        split
        · rename_i hi0; subst hi0; rfl
        · rfl
      rw [ea] at h2
      have hmem : zs.getD i 0 ∈ zs := by
        rw [List.getD_eq_getElem?_getD, List.getElem?_eq_getElem (by omega)]; exact List.getElem_mem _
      have hwf := hw _ hmem
      simp [Lit.wf, IntKind.min, IntKind.max, IntKind.signed, IntKind.bits] at hwf
      exact ⟨_, h2, by simpa [List.getD_eq_getElem?_getD] using hwf.1, by simpa [List.getD_eq_getElem?_getD] using hwf.2⟩
theorem c_open (a : Option Addr) (len cap : Nat) (w : World) (hcl : len ≤ cap) (hcap : cap ≤ maxLen) (hD : D ≤ w.heap.size)
    (h : len = 0 ∨ ∃ b off, a = some ⟨b, off, none⟩ ∧ b < D ∧ ∀ i, i < len → ∃ x : Int, w.cell? ⟨b, off + i, none⟩ = some (.int .u8 x) ∧ 0 ≤ x ∧ x ≤ 255) :
    Calls Try.prog 46 #[.slice a len cap] w (RetRd D w) := by
  unfold maxLen at hcap
  have HH := Lib.hid h
  clear h
  by_cases hb : 2000 < len
  · have hb' : (2000 : Int) < (len : Int) := by omega
    rcases HH.out with h0 | ⟨b, off, rfl, hlt, hc⟩
    · omega
    go_enter Try.func46, Try.ntmps46
    go_wp2
    go_ret
    refine ⟨w.heap.size, rfl, Nat.le_refl _, ⟨hD, _, _, _, heap_alloc_new w _, Nat.le_refl _, .inr ⟨b, off, rfl, hlt, by simp; omega, fun i hi => ?_⟩⟩, by go_grown⟩
    obtain ⟨x, hx, hx2⟩ := hc i (by omega)
    exact ⟨x, keep hx _, hx2⟩
  · have hb' : (len : Int) ≤ 2000 := by omega
    go_enter Try.func46, Try.ntmps46
    go_wp2
    go_ret
    refine ⟨w.heap.size, rfl, Nat.le_refl _, ⟨hD, _, _, _, heap_alloc_new w _, by omega, HH.out.imp id ?_⟩, by go_grown⟩
    rintro ⟨b, off, rfl, hlt, hc⟩
    exact ⟨b, off, rfl, hlt, by simp; omega, fun i hi => by
      obtain ⟨x, hx, hx2⟩ := hc i hi
      exact ⟨x, keep hx _, hx2⟩⟩
end Go.Proofs.Ytalalapjanckdaa
