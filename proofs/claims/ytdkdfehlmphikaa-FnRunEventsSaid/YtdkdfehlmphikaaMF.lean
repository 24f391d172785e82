/- Texts laid together (DTab, DTb). No condition but what each theorem says. -/
import Derived.Test.YtdkdfehlmphikaaMG
import Derived.Test.YtdkdfehlmphikaaMB
import Derived.Test.YtdkdfehlmphikaaME
import Derived.Test.YtdkdfehlmphikaaMD
/- The draws of a host's number and of a table. No condition. -/
namespace Go.Proofs.Ytdkdfehlmphikaa
open Go.RowKit
variable {D : Nat}
/-- A number is drawn. -/
def RetDI (D : Nat) (w : World) (g p m : Nat) (e : Ending) (w' : World) : Prop := ∃ x : Int, e = .returned (.int .i64 x) ∧ (∃ p', p' ≤ p + m ∧ Rd D w' g p') ∧ w.grownBy w' (some g)
set_option maxHeartbeats 2000000 in
theorem s_l20Number (g p : Nat) (a : Option Addr) (n cap : Nat) (xs : List Int) (w : World) (h : Rd D w g p) (hp : p ≤ 50000) (hl : xs.length = n * 3) (hn : n ≤ 1000) (hI : Ints w a xs) (hne : ∀ q, a = some q → q.block ≠ g) :
    Calls Try.prog 101 #[.pointer (some ⟨g, 0, none⟩), .slice a n cap] w (RetDI D w g p 2) := by
  have HR := Lib.hid h
  have HI := Lib.hid hI
  clear h hI
  by_cases h0 : n = 0
  · subst h0
    go_enter Try.func101, Try.ntmps101
    go_wp2_with fail
    refine (c_pick g p 32 _ HR.out (by omega) (by omega) (by omega)).mono ?_
    rintro e w4 ⟨x, rfl, y1, y2, _, hr4, hg4⟩
    have y3 := y2 (by omega)
    have hi1 : IntKind.i64.wrap (x - 1) = x - 1 := IntWalk.i64_in _ (by omega)
    go_wp2
    go_ret
    exact ⟨x - 1, rfl, ⟨p + 1, by omega, hr4⟩, hg4⟩
  have hn0 : decide ((0 : Int) < (n : Int)) = true := decide_eq_true (by omega)
  have hn1 : (0 : Int) < (n : Int) := by omega
  go_enter Try.func101, Try.ntmps101
  go_wp2_with fail
  refine (c_pick g p 5 _ HR.out (by omega) (by omega) (by omega)).mono ?_
  rintro e w4 ⟨x, rfl, y1, y2, _, hr4, hg4⟩
  have y3 := y2 (by omega)
  have HR4 := Lib.hid hr4
  have HG4 := Lib.hid hg4
  have HI4 := Lib.hid (HI.out.kept hg4 (fun q hq e => hne q hq (by simpa using e)))
  clear hr4 hg4 y2 HR HI
  by_cases hx : 0 < x
  · go_wp2_with fail
    refine (c_pick g (p + 1) (n : Int) _ HR4.out (by omega) (by omega) (by omega)).mono ?_
    rintro e w5 ⟨t, rfl, z1, z2, _, hr5, hg5⟩
    have z3 := z2 (by omega)
    have HR5 := Lib.hid hr5
    have HG5 := Lib.hid (grownBy_tr HG4.out hg5)
    have hI5 := HI4.out.kept hg5 (fun q hq e => hne q hq (by simpa using e))
    clear hr5 hg5 z2 HI4
    obtain ⟨k, rfl⟩ := Int.eq_ofNat_of_zero_le z1
    have hk : k < n := by omega
    rcases hI5 with h | ⟨b, off, rfl, hb, hc⟩
    · rw [h] at hl; simp at hl; omega
    have c0 := hc (k * 3) (by omega)
    go_wp2
    go_ret
    exact ⟨_, rfl, ⟨p + 1 + 1, by omega, HR5.out⟩, HG5.out⟩
  · go_wp2_with fail
    refine (c_pick g (p + 1) 32 _ HR4.out (by omega) (by omega) (by omega)).mono ?_
    rintro e w5 ⟨t, rfl, z1, z2, _, hr5, hg5⟩
    have z3 := z2 (by omega)
    have hi1 : IntKind.i64.wrap (t - 1) = t - 1 := IntWalk.i64_in _ (by omega)
    have HR5 := Lib.hid hr5
    have HG5 := Lib.hid (grownBy_tr HG4.out hg5)
    clear hr5 hg5 z2
    go_wp2
    go_ret
    exact ⟨t - 1, rfl, ⟨p + 1 + 1, by omega, HR5.out⟩, HG5.out⟩
/-- A table is drawn. -/
def RetDT (D : Nat) (w : World) (g p m : Nat) (e : Ending) (w' : World) : Prop :=
  ∃ (N R : Int) (a : Option Addr) (cap : Nat) (es : List E7), e = .returned (.agg #[.int .i64 N, .int .i64 R, .slice a es.length cap]) ∧ es.length ≤ 8 ∧
    w'.ownsRow w.heap.size 69 7 (.slice a es.length cap) es.length (eCells es) ∧ (∃ p', p' ≤ p + m ∧ Rd D w' g p') ∧ w.grownBy w' (some g)
theorem touch_len1 (t : T3) (f : F5) (ho now : Int) : (touchT t f ho now).1.2.2.length ≤ t.2.2.length + 1 := by
  unfold touchT
  split
  · have : (restT t.1 t.2.2 f).length ≤ t.2.2.length := by
      unfold restT
      split
      · exact List.length_filter_le _ _
      · split
        · rw [List.length_drop]; omega
        · exact Nat.le_refl _
    show (restT t.1 t.2.2 f ++ [_]).length ≤ _
    rw [List.length_append]
    simp only [List.length_cons, List.length_nil]
    omega
  · simp
/-- A table's value whose row is a new one. -/
def TabV (B m : Nat) (v : Value) (w : World) : Prop :=
  ∃ (N R : Int) (a : Option Addr) (c : Nat) (es : List E7), v = .agg #[.int .i64 N, .int .i64 R, .slice a es.length c] ∧ es.length ≤ m ∧ w.ownsRow B 69 7 (.slice a es.length c) es.length (eCells es)
def TabW (B m : Nat) (v : Value) (w : World) : Prop := ∃ (u : Value) (bb : Bool), v = .tuple #[u, .bool bb] ∧ TabV B m u w
theorem TabV.stb {g B m : Nat} {S : List BR} (hgB : g < B) (hS : ∀ s ∈ S, s.T ≠ 69) : Stb g B S (TabV B m) := by
  intro v w w' ⟨N, R, a, c, es, h1, h2, h3⟩ hg
  exact ⟨N, R, a, c, es, h1, h2, gr_row hg hgB hS h3⟩
theorem TabW.stb {g B m : Nat} {S : List BR} (hgB : g < B) (hS : ∀ s ∈ S, s.T ≠ 69) : Stb g B S (TabW B m) := by
  intro v w w' ⟨u, bb, h1, h2⟩ hg
  exact ⟨u, bb, h1, TabV.stb hgB hS _ _ _ h2 hg⟩
/-- The store of a drawn table into its box. -/
theorem st_tabV {ρ : Operand → Value} {o : Oper} {w : World} {B m : Nat} {c d : Tmp} (ho : o.op = .store 30 (.tmp c) (.tmp d)) (b : Nat) (cs : List Value) (u : Value)
    (hx : ρ (.tmp c) = .pointer (some ⟨b, 0, none⟩)) (hy : ρ (.tmp d) = u) (hb : Box w b 30 cs)
    (hc : cs = [.int .i64 0, .int .i64 0, .slice none 0 0] ∨ ∃ u', cs = u'.cells.toList ∧ TabV B m u' w) (hu : TabV B m u w) :
    ∃ w', (execOp ρ o).run Try.prog w = .ok .skip w' ∧ Box w' b 30 u.cells.toList ∧ TabV B m u w' ∧ w.grownBy w' (some b) ∧ w'.heap.size = w.heap.size := by
  obtain ⟨N, R, a, k, es, rfl, hl, hr⟩ := hu
  have h3 : ∃ c0 c1 c2, cs = [c0, c1, c2] := by
    rcases hc with h | ⟨u', h, _, _, a', k', es', h', _⟩
    · exact ⟨_, _, _, h⟩
    · subst h'; exact ⟨_, _, _, h⟩
  obtain ⟨c0, c1, c2, rfl⟩ := h3
  obtain ⟨h0, h1, h2, hf⟩ := hb.three
  refine ⟨((w.setCell ⟨b, 0, none⟩ (.int .i64 N)).setCell ⟨b, 1, none⟩ (.int .i64 R)).setCell ⟨b, 2, none⟩ (.slice a es.length k), ?_, ?_, ?_, ?_, ?_⟩
  · have e1 : (w.setCell ⟨b, 0, none⟩ (.int .i64 N)).cell? ⟨b, 1, none⟩ = some c1 := (hb.set 0 _).cell 1
    have e2 : ((w.setCell ⟨b, 0, none⟩ (.int .i64 N)).setCell ⟨b, 1, none⟩ (.int .i64 R)).cell? ⟨b, 2, none⟩ = some c2 := ((hb.set 0 _).set 1 _).cell 2
    simp [execOp, ho, hx, hy, h0, h1, h2, hf, go_sem]
  · exact ((hb.set 0 _).set 1 _).set 2 _
  · have hne := row_ne hr hb (by decide)
    exact ⟨N, R, a, k, es, rfl, hl, row_set (row_set (row_set hr _ _ hne) _ _ hne) _ _ hne⟩
  · exact grownBy_tr (grownBy_tr (gb_setp _ _ _) (gb_setp _ ⟨b, 1, none⟩ _)) (gb_setp _ ⟨b, 2, none⟩ _)
  · simp
theorem run_minmax (o : Oper) (ρ : Operand → Value) (w : World) (x y : Operand) (ts : Array TypeId) (m n : Int) (hx : ρ x = .int .i64 m) (hy : ρ y = .int .i64 n) :
    (o.op = .call { callee := .builtin .min, args := #[x, y], argTypes := ts } → ∃ z : Int, (execOp ρ o).run Try.prog w = .ok (.value (.int .i64 z)) w) ∧ (o.op = .call { callee := .builtin .max, args := #[x, y], argTypes := ts } → ∃ z : Int, (execOp ρ o).run Try.prog w = .ok (.value (.int .i64 z)) w) := by
  refine ⟨fun ho => ?_, fun ho => ?_⟩
  · by_cases h : n < m
    · exact ⟨n, by simp [execOp, ho, hx, hy, h, go_sem]⟩
    · exact ⟨m, by simp [execOp, ho, hx, hy, h, go_sem]⟩
  · by_cases h : m < n
    · exact ⟨n, by simp [execOp, ho, hx, hy, h, go_sem]⟩
    · exact ⟨m, by simp [execOp, ho, hx, hy, h, go_sem]⟩
end Go.Proofs.Ytdkdfehlmphikaa
/- The draw of a table. No condition. -/
namespace Go.Proofs.Ytdkdfehlmphikaa
open Go.RowKit
variable {D : Nat}
/-- A table under construction: its box b, its row, the result's box, the reader. -/
structure TbC (D g b q : Nat) (w : World) (N R : Int) (es : List E7) (a : Option Addr) (cap : Nat) (wr : World) : Prop where
  bx : Box wr b 30 [.int .i64 N, .int .i64 R, .slice a es.length cap]
  own : wr.ownsRow w.heap.size 69 7 (.slice a es.length cap) es.length (eCells es)
  res : Box wr w.heap.size 30 [.int .i64 0, .int .i64 0, .slice none 0 0]
  lo : w.heap.size < b
  gw : g < w.heap.size
  rd : Rd D wr g q
  gr : w.grownBy wr (some g)
section
variable {g b q : Nat} {w wr : World} {N R : Int} {es : List E7} {a : Option Addr} {cap : Nat}
theorem TbC.by (h : TbC D g b q w N R es a cap wr) {w' : World} {q' : Nat} (hg : wr.grownBy w' (some g)) (hr : Rd D w' g q') : TbC D g b q' w N R es a cap w' :=
  ⟨h.bx.by hg (by have := h.lo; have := h.gw; omega), row_kept h.own hg (fun k hk e => by have := (h.own.lt k hk).1; have := h.gw; injection e; omega), h.res.by hg (by have := h.gw; omega), h.lo, h.gw, hr, grownBy_tr h.gr hg⟩
theorem TbC.alloc (h : TbC D g b q w N R es a cap wr) (o : Obj) : TbC D g b q w N R es a cap (wr.alloc o) := h.by (grownBy_alloc _ _ _) (h.rd.keep (grownBy_alloc _ _ _))
theorem TbC.set0 (h : TbC D g b q w N R es a cap wr) (u : Int) : TbC D g b q w u R es a cap (wr.setCell ⟨b, 0, none⟩ (.int .i64 u)) :=
  ⟨h.bx.set 0 _, row_set h.own _ _ (row_ne h.own h.bx (by decide)), h.res.other (by have := h.lo; simp; omega) _, h.lo, h.gw, h.rd.other (by have := h.rd.1; have := h.lo; have := h.gw; omega) (by have := h.lo; have := h.gw; omega) _ _, gb_set h.gr (b := b) (by have := h.lo; omega) _ _⟩
theorem TbC.set1 (h : TbC D g b q w N R es a cap wr) (u : Int) : TbC D g b q w N u es a cap (wr.setCell ⟨b, 1, none⟩ (.int .i64 u)) :=
  ⟨h.bx.set 1 _, row_set h.own _ _ (row_ne h.own h.bx (by decide)), h.res.other (by have := h.lo; simp; omega) _, h.lo, h.gw, h.rd.other (by have := h.rd.1; have := h.lo; have := h.gw; omega) (by have := h.lo; have := h.gw; omega) _ _, gb_set h.gr (b := b) (by have := h.lo; omega) _ _⟩
theorem TbC.set2 {es' : List E7} {a' : Option Addr} {cap' : Nat} (h : TbC D g b q w N R es a cap wr) (ho : wr.ownsRow w.heap.size 69 7 (.slice a' es'.length cap') es'.length (eCells es')) : TbC D g b q w N R es' a' cap' (wr.setCell ⟨b, 2, none⟩ (.slice a' es'.length cap')) :=
  ⟨h.bx.set 2 _, row_set ho _ _ (row_ne ho h.bx (by decide)), h.res.other (by have := h.lo; simp; omega) _, h.lo, h.gw, h.rd.other (by have := h.rd.1; have := h.lo; have := h.gw; omega) (by have := h.lo; have := h.gw; omega) _ _, gb_set h.gr (b := b) (by have := h.lo; omega) _ _⟩
/-- Another table altogether is laid into the box. -/
theorem TbC.turn {N' R' : Int} {es' : List E7} {a' : Option Addr} {cap' : Nat} (h : TbC D g b q w N R es a cap wr) (ho : wr.ownsRow w.heap.size 69 7 (.slice a' es'.length cap') es'.length (eCells es')) :
    TbC D g b q w N' R' es' a' cap' (((wr.setCell ⟨b, 0, none⟩ (.int .i64 N')).setCell ⟨b, 1, none⟩ (.int .i64 R')).setCell ⟨b, 2, none⟩ (.slice a' es'.length cap')) :=
  ((h.set0 N').set1 R').set2 (row_set (row_set ho _ _ (row_ne ho h.bx (by decide))) _ _ (row_ne ho h.bx (by decide)))
end
theorem run_bE (o : Oper) (ρ : Operand → Value) (w : World) (x y z : Operand) (m0 m1 m2 m3 m4 m5 m6 : Int) (ho : o.op = .build 69 #[(0, x), (1, y), (2, z)]) (h0 : ρ x = .agg #[.int .i64 m0, .int .i64 m1, .int .i64 m2, .int .i64 m3, .int .i64 m4]) (h1 : ρ y = .int .i64 m5) (h2 : ρ z = .int .i64 m6) :
    (execOp ρ o).run Try.prog w = .ok (.value (.agg #[.int .i64 m0, .int .i64 m1, .int .i64 m2, .int .i64 m3, .int .i64 m4, .int .i64 m5, .int .i64 m6])) w := by
  simp [execOp, ho, h0, h1, h2, go_sem]
theorem run_bE2 (o : Oper) (ρ : Operand → Value) (w : World) (x z : Operand) (m0 m1 m2 m3 m4 m6 : Int) (ho : o.op = .build 69 #[(0, x), (2, z)]) (h0 : ρ x = .agg #[.int .i64 m0, .int .i64 m1, .int .i64 m2, .int .i64 m3, .int .i64 m4]) (h2 : ρ z = .int .i64 m6) :
    (execOp ρ o).run Try.prog w = .ok (.value (.agg #[.int .i64 m0, .int .i64 m1, .int .i64 m2, .int .i64 m3, .int .i64 m4, .int .i64 0, .int .i64 m6])) w := by
  simp [execOp, ho, h0, h2, go_sem]
theorem run_bsE (o : Oper) (ρ : Operand → Value) (w : World) (x : Operand) (m0 m1 m2 m3 m4 m5 m6 : Int) (ho : o.op = .buildSlice 28 1 #[(0, x)]) (hx : ρ x = .agg #[.int .i64 m0, .int .i64 m1, .int .i64 m2, .int .i64 m3, .int .i64 m4, .int .i64 m5, .int .i64 m6]) :
    (execOp ρ o).run Try.prog w = .ok (.value (.slice (some ⟨w.heap.size, 0, none⟩) 1 1)) (w.alloc (.cells #[.int .i64 m0, .int .i64 m1, .int .i64 m2, .int .i64 m3, .int .i64 m4, .int .i64 m5, .int .i64 m6] 69)) := by
  simp [execOp, ho, hx, go_sem]
theorem run_faT (o : Oper) (ρ : Operand → Value) (w : World) (x : Operand) (b : Nat) (ho : o.op = .fieldAddr 30 x 2) (hx : ρ x = .pointer (some ⟨b, 0, none⟩)) : (execOp ρ o).run Try.prog w = .ok (.value (.pointer (some ⟨b, 2, none⟩))) w := by
  simp [execOp, ho, hx, go_sem]
theorem run_ldS (o : Oper) (ρ : Operand → Value) (w : World) (x : Operand) (b i : Nat) (v : Value) (ho : o.op = .load 28 x) (hx : ρ x = .pointer (some ⟨b, i, none⟩)) (hc : w.cell? ⟨b, i, none⟩ = some v) : (execOp ρ o).run Try.prog w = .ok (.value v) w := by
  simp [execOp, ho, hx, hc, go_sem]
def FlowP (v : Value) : Prop := ∃ x0 x1 x2 x3 x4 : Int, v = .agg #[.int .i64 x0, .int .i64 x1, .int .i64 x2, .int .i64 x3, .int .i64 x4]
def IntP (v : Value) : Prop := ∃ x : Int, v = .int .i64 x
def EntP (v : Value) : Prop := ∃ x0 x1 x2 x3 x4 x5 x6 : Int, v = .agg #[.int .i64 x0, .int .i64 x1, .int .i64 x2, .int .i64 x3, .int .i64 x4, .int .i64 x5, .int .i64 x6]
def EntS (B : Nat) (v : Value) (w : World) : Prop := ∃ (k : Nat) (x0 x1 x2 x3 x4 x5 x6 : Int), v = .slice (some ⟨k, 0, none⟩) 1 1 ∧ B ≤ k ∧ Box w k 69 [.int .i64 x0, .int .i64 x1, .int .i64 x2, .int .i64 x3, .int .i64 x4, .int .i64 x5, .int .i64 x6]
def BoolP (v : Value) : Prop := ∃ bb : Bool, v = .bool bb
/-- What only turns a new row has turned only the reader. -/
theorem gb_row9 {w w1 w2 : World} {g : Nat} {r : Option Nat} (h : w.grownBy w1 (some g)) (k : w1.grownBy w2 r) (hr : ∀ q, r = some q → w.heap.size ≤ q) : w.grownBy w2 (some g) :=
  ⟨k.os.trans h.os, k.tape.trans h.tape, k.output.trans h.output, Nat.le_trans h.size k.size, fun i hi hn => (k.block i (Nat.lt_of_lt_of_le hi h.size) (fun e => by have := hr i e.symm; omega)).trans (h.block i hi hn)⟩
theorem minP {o : Oper} {ρ : Operand → Value} {w : World} {x y : Operand} {ts : Array TypeId} {m n : Int} (ho : o.op = .call { callee := .builtin .min, args := #[x, y], argTypes := ts }) (hx : ρ x = .int .i64 m) (hy : ρ y = .int .i64 n) : ∃ v, (execOp ρ o).run Try.prog w = .ok (.value v) w ∧ IntP v := by
  obtain ⟨z, hz⟩ := (run_minmax o ρ w x y ts m n hx hy).1 ho
  exact ⟨_, hz, z, rfl⟩
theorem maxP {o : Oper} {ρ : Operand → Value} {w : World} {x y : Operand} {ts : Array TypeId} {m n : Int} (ho : o.op = .call { callee := .builtin .max, args := #[x, y], argTypes := ts }) (hx : ρ x = .int .i64 m) (hy : ρ y = .int .i64 n) : ∃ v, (execOp ρ o).run Try.prog w = .ok (.value v) w ∧ IntP v := by
  obtain ⟨z, hz⟩ := (run_minmax o ρ w x y ts m n hx hy).2 ho
  exact ⟨_, hz, z, rfl⟩
theorem run_extR (o : Oper) (ρ : Operand → Value) (w : World) (x : Operand) (k : Nat) (vs : Array Value) (v : Value) (ho : o.op = .extract x k) (hx : ρ x = .tuple vs) (hv : vs[k]? = some v) : (execOp ρ o).run Try.prog w = .ok (.value v) w := by
  simp [execOp, ho, hx, hv, go_sem]
theorem ro_rd {w w' : World} {g p p' : Nat} (_ : Rd D w g p) (h : Rd D w' g p') (hp : p = p') : Rd D w' g p := by rw [hp]; exact h
set_option maxRecDepth 100000 in
set_option maxHeartbeats 16000000 in
theorem s_l20Table (g p : Nat) (pa : Option Addr) (pn pcap : Nat) (pxs : List Int) (nn : Int) (w : World) (h : Rd D w g p) (hp : p ≤ 9000) (n1 : -1000 ≤ nn) (n2 : nn ≤ 1000) (hpl : pxs.length = pn * 3) (hpn : pn ≤ 1000) (hpI : Ints w pa pxs) (hpne : ∀ q, pa = some q → q.block ≠ g) :
    Calls Try.prog 79 #[.pointer (some ⟨g, 0, none⟩), .slice pa pn pcap, .int .i64 nn] w (RetDT D w g p 8000) := by
  have hglt := h.lt
  have hD0 : D ≤ w.heap.size := by have := h.1; omega
  have HR := Lib.hid h
  have HPI := Lib.hid hpI
  clear h hpI
  go_enter Try.func79, Try.ntmps79
  go_wp2_with fail
  refine (c_pick g p 6 _ (HR.out.keep (grownBy_alloc _ _ _)) (by omega) (by omega) (by omega)).mono ?_
  rintro e w1 ⟨s1, rfl, y1, y2, _, hr1, hg1⟩
  have y3 := y2 (by omega)
  have HR1 := Lib.hid hr1
  have HG1 := Lib.hid (grownBy_tr (grownBy_alloc w (some g) _) hg1)
  have HS1 := Lib.hid ((Box.new w 30 [.int .i64 0, .int .i64 0, .slice none 0 0]).by hg1 (by omega))
  have hi1 : IntKind.i64.wrap (1 + s1) = 1 + s1 := IntWalk.i64_in _ (by omega)
  clear hr1 hg1 HR y2
  go_wp2_with fail
  refine (c_pick g (p + 1) 256 _ HR1.out (by omega) (by omega) (by omega)).mono ?_
  rintro e w2 ⟨s2, rfl, z1, z2, _, hr2, hg2⟩
  have z3 := z2 (by omega)
  have HR2 := Lib.hid hr2
  have HG2 := Lib.hid (grownBy_tr HG1.out hg2)
  have HS2 := Lib.hid (HS1.out.by hg2 (by omega))
  have hi2 : IntKind.i64.wrap (1 + s2) = 1 + s2 := IntWalk.i64_in _ (by omega)
  clear hr2 hg2 HR1 HG1 HS1 z2
  go_wp2_with fail
  refine (c_pick g (p + 1 + 1) 3 _ (HR2.out.keep (grownBy_alloc _ _ _)) (by omega) (by omega) (by omega)).mono ?_
  rintro e w3 ⟨s3, rfl, v1, v2, _, hr3, hg3⟩
  have v3 := v2 (by omega)
  have hg2' : g < w2.heap.size := HR2.out.lt
  have HL3 := Lib.hid ((Box.new w2 3 [.int .i64 10, .int .i64 50, .int .i64 (1 + s2)]).by hg3 (by omega))
  have HR3 := Lib.hid hr3
  have HG3 := Lib.hid (grownBy_tr (gb_alloc HG2.out _) hg3)
  have HS3 := Lib.hid ((HS2.out.alloc (.cells #[.int .i64 10, .int .i64 50, .int .i64 (1 + s2)] 3)).by hg3 (by omega))
  clear hr3 hg3 HR2 HG2 HS2 v2
  obtain ⟨sk, rfl⟩ := Int.eq_ofNat_of_zero_le v1
  obtain ⟨st, hst⟩ : ∃ st : Int, w3.cell? ⟨w2.heap.size, sk, none⟩ = some (.int .i64 st) := by
    have hl0 := HL3.out.cell 0
    have hl1 := HL3.out.cell 1
    have hl2 := HL3.out.cell 2
    have : sk = 0 ∨ sk = 1 ∨ sk = 2 := by omega
    rcases this with rfl | rfl | rfl
    · exact ⟨_, hl0⟩
    · exact ⟨_, hl1⟩
    · exact ⟨_, hl2⟩
  have HGS3 := HG3.out.size
  have hsk : (sk : Int) < 3 := by omega
  go_upto_region 2 with fail
  obtain ⟨b, hb⟩ : ∃ b, b = w3.heap.size + 1 := ⟨_, rfl⟩
  obtain ⟨w4, hw4⟩ : ∃ W4, W4 = ((w3.alloc (.cells #[] 69)).alloc (.cells #[.int .i64 (1 + s1), .int .i64 st, .slice (some ⟨w3.heap.size, 0, none⟩) 0 0] 30)) := ⟨_, rfl⟩
  have HC4 : Hid (TbC D g b (p + 1 + 1 + 1) w (1 + s1) st [] (some ⟨w3.heap.size, 0, none⟩) 0 w4) := Lib.hid (by
    rw [hw4]
    exact ⟨Box.new2 _ _ _ _ (by rw [hb]; simp), row_wider ((row_emp w3 _ 69 7 rfl (Nat.le_refl _)).alloc _) (by omega), (HS3.out.alloc _).alloc _, by omega, hglt, (HR3.out.keep (grownBy_alloc _ _ _)).keep (grownBy_alloc _ _ _), gb_alloc (gb_alloc HG3.out _) _⟩)
  rw [← hw4, ← hb]
  clear hw4 hb HL3 HR3 HG3 HS3 hst HGS3
  go_wp2_with fail
  refine (c_pick g (p + 1 + 1 + 1) 8 _ HC4.out.rd (by omega) (by omega) (by omega)).mono ?_
  rintro e w5 ⟨jj, rfl, u1, u2, _, hr5, hg5⟩
  have u3 := u2 (by omega)
  have HC5 := Lib.hid (HC4.out.by hg5 hr5)
  clear hr5 hg5 HC4 u2
  obtain ⟨j0, rfl⟩ := Int.eq_ofNat_of_zero_le u1
  have hHP5 : Hid (Ints w5 pa pxs) := Lib.hid (HPI.out.kept HC5.out.gr (fun q hq e => hpne q hq (by simpa using e)))
  go_wp2
  go_loopw [8, 9] (fun t i wr => ∃ (j q : Nat) (nw N R : Int) (es : List E7) (a : Option Addr) (cap : Nat), i = .int .i64 j ∧ t = .int .i64 nw ∧ 0 ≤ nw ∧ nw + 9 * (j : Int) ≤ 63 ∧ es.length + j ≤ 7 ∧ q + 901 * j ≤ p + 6400 ∧ TbC D g b q w N R es a cap wr) (fun _ i _ => (intOf i).toNat)
  case atStart => exact ⟨j0, p + 1 + 1 + 1 + 1, 0, 1 + s1, st, [], some ⟨w3.heap.size, 0, none⟩, 0, rfl, rfl, by omega, by omega, by simp; omega, by omega, HC5.out⟩
  case round =>
    obtain ⟨j, q, nw, N, R, es, a, cap, rfl, rfl, nw0, nw1, hj, hq, hC⟩ := hrel
    have HC := Lib.hid hC
    clear hC
    by_cases hlt : 0 < j
    · obtain ⟨c0, c1, c2, cf⟩ := HC.out.bx.three
      have hgw7 : g < wr.heap.size := HC.out.rd.lt
      have hDw : D ≤ wr.heap.size := by have := HC.out.rd.1; omega
      have hIP : Hid (Ints wr pa pxs) := Lib.hid (HPI.out.kept HC.out.gr (fun q hq e => hpne q hq (by simpa using e)))
      have hpnb : Hid (∀ q, pa = some q → q.block ≠ g) := Lib.hid hpne
      have hj0 : decide ((0 : Int) < (j : Int)) = true := decide_eq_true (by omega)
      have hlo := HC.out.lo
      have hgw := HC.out.gw
      have hbw := HC.out.bx.lt
      go_upto_region 6 with fail
      have hSm : ∀ s ∈ ([⟨10, 30, [.int .i64 0, .int .i64 0, .slice none 0 0], TabV wr.heap.size (es.length + 1)⟩] : List BR), s.T ≠ 69 := fun s hs => by rw [List.mem_singleton.1 hs]; show (30 : Nat) ≠ 69; decide
      refine region_draw _ D g q 60 15 87 [32, 33, 34, 35, 36, 37, 38, 39, 40, 41, 31, 42, 43, 10] [⟨10, 30, [.int .i64 0, .int .i64 0, .slice none 0 0], TabV wr.heap.size (es.length + 1)⟩] [(32, fun v _ => v = .agg #[.int .i64 N, .int .i64 R, .slice a es.length cap]), (33, fun v _ => v = .pointer (some ⟨g, 0, none⟩)), (34, fun v _ => FlowP v), (35, fun v _ => v = .pointer (some ⟨g, 0, none⟩)), (36, fun v _ => v = .slice pa pn pcap), (37, fun v _ => IntP v), (38, fun v _ => IntP v), (39, fun v _ => IntP v), (40, fun v _ => v = .int .i64 nw), (41, TabW wr.heap.size (es.length + 1)), (31, TabW wr.heap.size (es.length + 1)), (42, TabV wr.heap.size (es.length + 1)), (43, fun v _ => BoolP v)] rfl (by kernel_rfl) hgw7 hDw HC.out.rd ?_ ?_ (fun s hs s' hs' _ => by rw [List.mem_singleton.1 hs, List.mem_singleton.1 hs']) (by kernel_rfl) ?_ ?_
      · intro s hs
        rw [List.mem_singleton.1 hs]
        exact TabV.stb hgw7 hSm
      · intro q hq
        simp only [List.mem_cons, List.not_mem_nil, or_false] at hq
        rcases hq with rfl | rfl | rfl | rfl | rfl | rfl | rfl | rfl | rfl | rfl | rfl | rfl | rfl
        · exact stb_pure _
        · exact stb_pure _
        · exact stb_pure _
        · exact stb_pure _
        · exact stb_pure _
        · exact stb_pure _
        · exact stb_pure _
        · exact stb_pure _
        · exact stb_pure _
        · exact TabW.stb hgw7 hSm
        · exact TabW.stb hgw7 hSm
        · exact TabV.stb hgw7 hSm
        · exact stb_pure _
      · refine ⟨?_, ?_, ?_, ?_, ?_, ?_, ?_, ?_, ?_, ?_, ?_, ?_, ?_, ?_, ?_, trivial⟩
        · refine opR_val (d := 32) rfl rfl (fun fr9 wq hf hd hb => ⟨.agg #[.int .i64 N, .int .i64 R, .slice a es.length cap], ?_, ?_⟩) _
          · exact run_ldTi _ _ _ (.tmp 7) b _ _ _ rfl (hf 7 (by kernel_rfl)) (HC.out.bx.by hb (by omega))
          · exact rfl
        · refine opR_val (d := 33) rfl rfl (fun fr9 wq hf hd hb => ⟨.pointer (some ⟨g, 0, none⟩), ?_, ?_⟩) _
          · exact (run_mv _ _ _ (.tmp 0) _ (hf 0 (by kernel_rfl))).1 rfl
          · exact rfl
        · refine opR_of (d := 34) rfl rfl (fun k9 fr9 wq hk hf hd hb hW => ?_) _
          obtain ⟨p', q1, q2⟩ := hW
          have e33 : fr9.tmps.getD 33 undef = .pointer (some ⟨g, 0, none⟩) := hd 33 (by kernel_rfl)
          have hv9 : (#[Operand.tmp 33, Operand.const (.int .i64 0)] : Array Operand).map fr9.eval = #[.pointer (some ⟨g, 0, none⟩), .int .i64 0] := by simp only [List.map_toArray, List.map_cons, List.map_nil, Act.eval, e33]
          refine op_call rfl (run_callL _ _ _ 80 _ _ _ rfl rfl hv9 (enters_of Try.func80 (by kernel_rfl) rfl)) ?_
          refine (s_l20Flow g p' 0 wq q2 (by omega) (by omega) (by omega)).mono ?_
          rintro e w5 ⟨x0, x1, x2, x3, x4, rfl, ⟨p5, hp5, hr5⟩, g5⟩
          exact ⟨_, rfl, _, rfl, ⟨x0, x1, x2, x3, x4, rfl⟩, g5, p5, by omega, hr5⟩
        · refine opR_val (d := 35) rfl rfl (fun fr9 wq hf hd hb => ⟨.pointer (some ⟨g, 0, none⟩), ?_, ?_⟩) _
          · exact (run_mv _ _ _ (.tmp 0) _ (hf 0 (by kernel_rfl))).1 rfl
          · exact rfl
        · refine opR_val (d := 36) rfl rfl (fun fr9 wq hf hd hb => ⟨.slice pa pn pcap, ?_, ?_⟩) _
          · exact (run_mv _ _ _ (.tmp 1) _ (hf 1 (by kernel_rfl))).1 rfl
          · exact rfl
        · refine opR_of (d := 37) rfl rfl (fun k9 fr9 wq hk hf hd hb hW => ?_) _
          obtain ⟨p', q1, q2⟩ := hW
          have e35 : fr9.tmps.getD 35 undef = .pointer (some ⟨g, 0, none⟩) := hd 35 (by kernel_rfl)
          have e36 : fr9.tmps.getD 36 undef = .slice pa pn pcap := hd 36 (by kernel_rfl)
          have hv9 : (#[Operand.tmp 35, Operand.tmp 36] : Array Operand).map fr9.eval = #[.pointer (some ⟨g, 0, none⟩), .slice pa pn pcap] := by simp only [List.map_toArray, List.map_cons, List.map_nil, Act.eval, e35, e36]
          refine op_call rfl (run_callL _ _ _ 101 _ _ _ rfl rfl hv9 (enters_of Try.func101 (by kernel_rfl) rfl)) ?_
          refine (s_l20Number g p' pa pn pcap pxs wq q2 (by omega) hpl hpn (hIP.out.kept hb (fun q hq e => hpnb.out q hq (by simpa using e))) hpnb.out).mono ?_
          rintro e w5 ⟨x, rfl, ⟨p5, hp5, hr5⟩, g5⟩
          exact ⟨_, rfl, _, rfl, ⟨x, rfl⟩, g5, p5, by omega, hr5⟩
        · refine opR_val (d := 38) rfl rfl (fun fr9 wq hf hd hb => ?_) _
          obtain ⟨x, e⟩ : IntP (fr9.tmps.getD 37 undef) := hd 37 (by kernel_rfl)
          exact minP rfl rfl e
        · refine opR_val (d := 39) rfl rfl (fun fr9 wq hf hd hb => ?_) _
          obtain ⟨x, e⟩ : IntP (fr9.tmps.getD 38 undef) := hd 38 (by kernel_rfl)
          exact maxP rfl rfl e
        · refine opR_val (d := 40) rfl rfl (fun fr9 wq hf hd hb => ⟨.int .i64 nw, ?_, ?_⟩) _
          · exact (run_mv _ _ _ (.tmp 8) _ (hf 8 (by kernel_rfl))).1 rfl
          · exact rfl
        · refine opR_of (d := 41) rfl rfl (fun k9 fr9 wq hk hf hd hb hW => ?_) _
          obtain ⟨p', q1, q2⟩ := hW
          have e32 : fr9.tmps.getD 32 undef = .agg #[.int .i64 N, .int .i64 R, .slice a es.length cap] := hd 32 (by kernel_rfl)
          obtain ⟨x0, x1, x2, x3, x4, e34⟩ : FlowP (fr9.tmps.getD 34 undef) := hd 34 (by kernel_rfl)
          obtain ⟨ho, e39⟩ : IntP (fr9.tmps.getD 39 undef) := hd 39 (by kernel_rfl)
          have e40 : fr9.tmps.getD 40 undef = .int .i64 nw := hd 40 (by kernel_rfl)
          have hv9 : (#[Operand.tmp 32, Operand.tmp 34, Operand.tmp 39, Operand.tmp 40] : Array Operand).map fr9.eval = #[.agg #[.int .i64 N, .int .i64 R, .slice a es.length cap], .agg #[.int .i64 x0, .int .i64 x1, .int .i64 x2, .int .i64 x3, .int .i64 x4], .int .i64 ho, .int .i64 nw] := by simp only [List.map_toArray, List.map_cons, List.map_nil, Act.eval, e32, e34, e39, e40]
          refine op_call rfl (run_callL _ _ _ 46 _ _ _ rfl rfl hv9 (enters_of Try.func46 (by kernel_rfl) rfl)) ?_
          have hown := row_kept HC.out.own hb (fun k hk e => by have := (HC.out.own.lt k hk).1; injection e; omega)
          refine (s_TouchFlow N R (x0, x1, x2, x3, x4) ho nw a es.length cap es wq rfl (by omega) (row_cap hown).1 (EntRow.ents hown) (own_none hown)).mono ?_
          rintro e w5 ⟨a5, c5, rfl, o5, g5⟩
          refine ⟨_, rfl, _, rfl, ⟨_, _, rfl, _, _, a5, c5, _, rfl, touch_len1 (N, R, es) _ _ _, row_wider o5 hb.size⟩, grown_any g5, p', by omega, q2.keep g5⟩
        · refine opR_of (d := 31) rfl rfl (fun k9 fr9 wq hk hf hd hb hW => ?_) _
          obtain ⟨p', q1, q2⟩ := hW
          obtain ⟨u, bb, e, hT⟩ : TabW wr.heap.size (es.length + 1) (fr9.tmps.getD 41 undef) wq := hd 41 (by kernel_rfl)
          exact wp_val2 rfl ((run_mv _ _ _ (.tmp 41) _ e).1 rfl) ⟨_, rfl, ⟨u, bb, rfl, hT⟩, World.grownBy.refl _ _, p', by omega, q2⟩
        · refine opR_of (d := 42) rfl rfl (fun k9 fr9 wq hk hf hd hb hW => ?_) _
          obtain ⟨p', q1, q2⟩ := hW
          obtain ⟨u, bb, e, hT⟩ : TabW wr.heap.size (es.length + 1) (fr9.tmps.getD 31 undef) wq := hd 31 (by kernel_rfl)
          exact wp_val2 rfl (run_extR _ _ _ (.tmp 31) 0 _ _ rfl e rfl) ⟨_, rfl, hT, World.grownBy.refl _ _, p', by omega, q2⟩
        · refine opR_of (d := 43) rfl rfl (fun k9 fr9 wq hk hf hd hb hW => ?_) _
          obtain ⟨p', q1, q2⟩ := hW
          obtain ⟨u, bb, e, hT⟩ : TabW wr.heap.size (es.length + 1) (fr9.tmps.getD 31 undef) wq := hd 31 (by kernel_rfl)
          exact wp_val2 rfl (run_extR _ _ _ (.tmp 31) 1 _ _ rfl e rfl) ⟨_, rfl, ⟨bb, rfl⟩, World.grownBy.refl _ _, p', by omega, q2⟩
        · exact opR_alloc (d := 10) rfl rfl (fun ρ wq => run_alTi _ ρ wq rfl) _
        · exact opR_store 10 42 30 rfl rfl rfl rfl (by kernel_rfl) (by kernel_rfl) rfl (fun ρ wq k cs u hx hy _ hb hc hu => st_tabV rfl k cs u hx hy hb hc hu) _
      · intro fq w7 hf hgr ⟨p9, hp9, hr9⟩
        have e32 : fq 32 = .agg #[.int .i64 N, .int .i64 R, .slice a es.length cap] := hf 32 (by decide)
        have e33 : fq 33 = .pointer (some ⟨g, 0, none⟩) := hf 33 (by decide)
        obtain ⟨f0, f1, f2, f3, f4, e34⟩ : FlowP (fq 34) := hf 34 (by decide)
        have e35 : fq 35 = .pointer (some ⟨g, 0, none⟩) := hf 35 (by decide)
        have e36 : fq 36 = .slice pa pn pcap := hf 36 (by decide)
        obtain ⟨i37, e37⟩ : IntP (fq 37) := hf 37 (by decide)
        obtain ⟨i38, e38⟩ : IntP (fq 38) := hf 38 (by decide)
        obtain ⟨i39, e39⟩ : IntP (fq 39) := hf 39 (by decide)
        have e40 : fq 40 = .int .i64 nw := hf 40 (by decide)
        obtain ⟨bb, e43⟩ : BoolP (fq 43) := hf 43 (by decide)
        obtain ⟨k, e10, hk10, N', R', a', c', es', hbx, hes', ho'⟩ : ∃ (k : Nat), fq 10 = .pointer (some ⟨k, 0, none⟩) ∧ wr.heap.size ≤ k ∧ ∃ (N' R' : Int) (a' : Option Addr) (c' : Nat) (es' : List E7), Box w7 k 30 [.int .i64 N', .int .i64 R', .slice a' es'.length c'] ∧ es'.length ≤ es.length + 1 ∧ w7.ownsRow wr.heap.size 69 7 (.slice a' es'.length c') es'.length (eCells es') := by
          obtain ⟨k, u, h1, h2, h3, N', R', a', c', es', rfl, h5, h6⟩ := hf 10 (by decide)
          exact ⟨k, h1, h2, N', R', a', c', es', h3, h5, h6⟩
        simp only [List.drop_succ_cons, List.drop_zero, putL, Act.put, List.setIfInBounds_toArray, List.set_cons_succ, List.set_cons_zero, e32, e33, e34, e35, e36, e37, e38, e39, e40, e43, e10]
        clear hf e32 e33 e34 e35 e36 e37 e38 e39 e40 e43 e10
        have HC7 := Lib.hid (HC.out.by hgr hr9)
        have HBK := Lib.hid hbx
        have hwr : w.heap.size ≤ wr.heap.size := HC.out.gr.size
        have HOK := Lib.hid (row_wider ho' hwr)
        clear hgr hr9 hbx ho' HC c0 c1 c2 cf
        obtain ⟨c0, c1, c2, cf⟩ := HC7.out.bx.three
        obtain ⟨k0, k1, k2, kf⟩ := HBK.out.three
        have hp9' : p9 ≤ q + 900 := by omega
        have hkb : ¬ k = b := by have := HC7.out.lo; omega
        cases bb
        · go_wp2_with fail
          refine (c_pick g p9 9 _ HC7.out.rd (by omega) (by omega) (by omega)).mono ?_
          rintro e w8 ⟨x, rfl, m1, m2, _, hr8, hg8⟩
          have m3 := m2 (by omega)
          have HC8 := Lib.hid (HC7.out.by hg8 hr8)
          have hi3 : IntKind.i64.wrap (nw + x) = nw + x := IntWalk.i64_in _ (by omega)
          clear hr8 hg8 m2
          go_wp2
          go_roundw
          case rel => exact ⟨j - 1, p9 + 1, nw + x, N, R, es, a, cap, by go_num, rfl, by omega, by omega, by omega, by omega, HC8.out⟩
          case measure => simp [intOf]; omega
        · go_wp2_with fail
          obtain ⟨W8, hW8⟩ : ∃ W8, W8 = ((w7.setCell ⟨b, 0, none⟩ (.int .i64 N')).setCell ⟨b, 1, none⟩ (.int .i64 R')).setCell ⟨b, 2, none⟩ (.slice a' es'.length c') := ⟨_, rfl⟩
          have HC8 : Hid (TbC D g b p9 w N' R' es' a' c' W8) := Lib.hid (by rw [hW8]; exact HC7.out.turn HOK.out)
          have HW8 := Lib.hid hW8
          clear hW8 HC7 HOK HBK c0 c1 c2 cf k0 k1 k2 kf
          rw [← HW8.out]
          refine (c_pick g p9 9 _ HC8.out.rd (by omega) (by omega) (by omega)).mono ?_
          rintro e w9 ⟨x, rfl, m1, m2, _, hr8, hg8⟩
          have m3 := m2 (by omega)
          have HC9 := Lib.hid (HC8.out.by hg8 hr8)
          have hi3 : IntKind.i64.wrap (nw + x) = nw + x := IntWalk.i64_in _ (by omega)
          clear hr8 hg8 m2
          go_wp2
          go_roundw
          case rel => exact ⟨j - 1, p9 + 1, nw + x, N', R', es', a', c', by go_num, rfl, by omega, by omega, by omega, by omega, HC9.out⟩
          case measure => simp [intOf]; omega
    · go_wp2_with fail
      refine (c_odd g q nn _ HC.out.rd (by omega) (by omega) (by omega)).mono ?_
      rintro e w6 ⟨od, rfl, ⟨q2, hq2, hr6⟩, hg6⟩
      have HC6 := Lib.hid (HC.out.by hg6 hr6)
      clear hr6 hg6 HC
      cases od
      · skip
        have HF := HC6.out.bx
        obtain ⟨c0, c1, c2, cf⟩ := HF.three
        obtain ⟨r0, r1, r2, rf⟩ := HC6.out.res.three
        have hlo := HC6.out.lo
        go_wp2
        refine bodyPost_ret (v := .agg #[.int .i64 N, .int .i64 R, .slice a es.length cap]) (by simp [results, Try.results79, go_sem, r0, r1, r2]) rfl ?_
        have hgw9 := HC6.out.gw
        have hD9 : D ≤ w.heap.size := by have := HC6.out.rd.1; omega
        have hne := row_ne HC6.out.own HC6.out.res (by decide)
        have hown := HC6.out.own
        refine ⟨N, R, a, cap, es, rfl, by omega, row_set (row_set (row_set hown _ _ hne) _ _ hne) _ _ hne, ⟨_, ?_, ((HC6.out.rd.other hD9 (by omega) _ _).other hD9 (by omega) _ _).other hD9 (by omega) _ _⟩, gb_set (gb_set (gb_set HC6.out.gr (Nat.le_refl _) _ _) (Nat.le_refl _) _ _) (Nat.le_refl _) _ _⟩
        omega
      · go_wp2_with fail
        refine (c_pick g q2 4 _ HC6.out.rd (by omega) (by omega) (by omega)).mono ?_
        rintro e w7 ⟨x, rfl, m1, m2, _, hr7, hg7⟩
        have m3 := m2 (by omega)
        have HC7 := Lib.hid (HC6.out.by hg7 hr7)
        clear hr7 hg7 m2 HC6
        have hx : x = 0 ∨ x = 1 ∨ x = 2 ∨ x = 3 := by omega
        clear m1 m3
        rcases hx with rfl | rfl | rfl | rfl
        · go_wp2_with fail
          refine (c_pick g (q2 + 1) 2 _ (HC7.out.alloc _).rd (by omega) (by omega) (by omega)).mono ?_
          rintro e w8 ⟨t, rfl, m1, m2, _, hr8, hg8⟩
          have m3 := m2 (by omega)
          have hg7' : g < w7.heap.size := HC7.out.rd.lt
          have HL8 := Lib.hid ((Box.new w7 3 [.int .i64 0, .int .i64 13]).by hg8 (by omega))
          have HC8 := Lib.hid ((HC7.out.alloc (.cells #[.int .i64 0, .int .i64 13] 3)).by hg8 hr8)
          clear hr8 hg8 m2 HC7
          have l0 := HL8.out.cell 0
          have l1 := HL8.out.cell 1
          simp only [List.getElem?_cons_zero, List.getElem?_cons_succ] at l0 l1
          obtain ⟨c0, c1, c2, cf⟩ := HC8.out.bx.three
          have ht : t = 0 ∨ t = 1 := by omega
          clear m1 m3
          rcases ht with rfl | rfl
          · go_upto_region 19 with fail
            have HC9 := Lib.hid (HC8.out.set0 0)
            clear c0 c1 c2 cf
            generalize w8.setCell ⟨b, 0, none⟩ (.int .i64 0) = W9 at *
            have HF := HC9.out.bx
            obtain ⟨c0, c1, c2, cf⟩ := HF.three
            obtain ⟨r0, r1, r2, rf⟩ := HC9.out.res.three
            have hlo := HC9.out.lo
            go_wp2
            refine bodyPost_ret (v := .agg #[.int .i64 0, .int .i64 R, .slice a es.length cap]) (by simp [results, Try.results79, go_sem, r0, r1, r2]) rfl ?_
            have hgw9 := HC9.out.gw
            have hD9 : D ≤ w.heap.size := by have := HC9.out.rd.1; omega
            have hne := row_ne HC9.out.own HC9.out.res (by decide)
            have hown := HC9.out.own
            refine ⟨0, R, a, cap, es, rfl, by omega, row_set (row_set (row_set hown _ _ hne) _ _ hne) _ _ hne, ⟨_, ?_, ((HC9.out.rd.other hD9 (by omega) _ _).other hD9 (by omega) _ _).other hD9 (by omega) _ _⟩, gb_set (gb_set (gb_set HC9.out.gr (Nat.le_refl _) _ _) (Nat.le_refl _) _ _) (Nat.le_refl _) _ _⟩
            omega
          · go_upto_region 19 with fail
            have HC9 := Lib.hid (HC8.out.set0 13)
            clear c0 c1 c2 cf
            generalize w8.setCell ⟨b, 0, none⟩ (.int .i64 13) = W9 at *
            have HF := HC9.out.bx
            obtain ⟨c0, c1, c2, cf⟩ := HF.three
            obtain ⟨r0, r1, r2, rf⟩ := HC9.out.res.three
            have hlo := HC9.out.lo
            go_wp2
            refine bodyPost_ret (v := .agg #[.int .i64 13, .int .i64 R, .slice a es.length cap]) (by simp [results, Try.results79, go_sem, r0, r1, r2]) rfl ?_
            have hgw9 := HC9.out.gw
            have hD9 : D ≤ w.heap.size := by have := HC9.out.rd.1; omega
            have hne := row_ne HC9.out.own HC9.out.res (by decide)
            have hown := HC9.out.own
            refine ⟨13, R, a, cap, es, rfl, by omega, row_set (row_set (row_set hown _ _ hne) _ _ hne) _ _ hne, ⟨_, ?_, ((HC9.out.rd.other hD9 (by omega) _ _).other hD9 (by omega) _ _).other hD9 (by omega) _ _⟩, gb_set (gb_set (gb_set HC9.out.gr (Nat.le_refl _) _ _) (Nat.le_refl _) _ _) (Nat.le_refl _) _ _⟩
            omega
        · obtain ⟨c0, c1, c2, cf⟩ := HC7.out.bx.three
          go_upto_region 19 with fail
          have HC9 := Lib.hid (HC7.out.set1 0)
          clear c0 c1 c2 cf
          generalize w7.setCell ⟨b, 1, none⟩ (.int .i64 0) = W9 at *
          have HF := HC9.out.bx
          obtain ⟨c0, c1, c2, cf⟩ := HF.three
          obtain ⟨r0, r1, r2, rf⟩ := HC9.out.res.three
          have hlo := HC9.out.lo
          go_wp2
          refine bodyPost_ret (v := .agg #[.int .i64 N, .int .i64 0, .slice a es.length cap]) (by simp [results, Try.results79, go_sem, r0, r1, r2]) rfl ?_
          have hgw9 := HC9.out.gw
          have hD9 : D ≤ w.heap.size := by have := HC9.out.rd.1; omega
          have hne := row_ne HC9.out.own HC9.out.res (by decide)
          have hown := HC9.out.own
          refine ⟨N, 0, a, cap, es, rfl, by omega, row_set (row_set (row_set hown _ _ hne) _ _ hne) _ _ hne, ⟨_, ?_, ((HC9.out.rd.other hD9 (by omega) _ _).other hD9 (by omega) _ _).other hD9 (by omega) _ _⟩, gb_set (gb_set (gb_set HC9.out.gr (Nat.le_refl _) _ _) (Nat.le_refl _) _ _) (Nat.le_refl _) _ _⟩
          omega
        · skip
          obtain ⟨c0, c1, c2, cf⟩ := HC7.out.bx.three
          have hgw7 : g < w7.heap.size := HC7.out.rd.lt
          have hDw : D ≤ w7.heap.size := by have := HC7.out.rd.1; omega
          go_upto_region 18 with fail
          refine region_draw _ D g _ 40 7 87 [77, 78, 79, 80, 81, 82, 83] [] [(77, fun v _ => v = .pointer (some ⟨b, 2, none⟩)), (78, fun v _ => v = .slice a es.length cap), (79, fun v _ => v = .pointer (some ⟨g, 0, none⟩)), (80, fun v _ => FlowP v), (81, fun v _ => v = .int .i64 nw), (82, fun v _ => EntP v), (83, EntS w7.heap.size)] rfl (by kernel_rfl) hgw7 hDw HC7.out.rd (fun s hs => by cases hs) ?_ (fun s hs => by cases hs) rfl ?_ ?_
          · intro q hq
            simp only [List.mem_cons, List.not_mem_nil, or_false] at hq
            rcases hq with rfl | rfl | rfl | rfl | rfl | rfl | rfl
            · exact stb_pure _
            · exact stb_pure _
            · exact stb_pure _
            · exact stb_pure _
            · exact stb_pure _
            · exact stb_pure _
            · intro v w w' ⟨k, x0, x1, x2, x3, x4, x5, x6, h1, h2, h3⟩ hg
              exact ⟨k, x0, x1, x2, x3, x4, x5, x6, h1, h2, gr_box hg (by omega) (.inl (fun s hs => by cases hs)) h3⟩
          · refine ⟨?_, ?_, ?_, ?_, ?_, ?_, ?_, trivial⟩
            · refine opR_val (d := 77) rfl rfl (fun fr9 wq hf hd hb => ⟨.pointer (some ⟨b, 2, none⟩), ?_, ?_⟩) _
              · exact run_faT _ _ _ (.tmp 7) b rfl (hf 7 (by kernel_rfl))
              · exact rfl
            · refine opR_val (d := 78) rfl rfl (fun fr9 wq hf hd hb => ⟨.slice a es.length cap, ?_, ?_⟩) _
              · exact run_ldS _ _ _ (.tmp 77) b 2 _ rfl (hd 77 (by kernel_rfl)) ((HC7.out.bx.by hb (by have := HC7.out.lo; have := HC7.out.gw; omega)).cell 2)
              · exact rfl
            · refine opR_val (d := 79) rfl rfl (fun fr9 wq hf hd hb => ⟨.pointer (some ⟨g, 0, none⟩), ?_, ?_⟩) _
              · exact (run_mv _ _ _ (.tmp 0) _ (hf 0 (by kernel_rfl))).1 rfl
              · exact rfl
            · refine opR_of (d := 80) rfl rfl (fun k9 fr9 wq hk hf hd hb hW => ?_) _
              obtain ⟨p', q1, q2⟩ := hW
              have e79 : fr9.tmps.getD 79 undef = .pointer (some ⟨g, 0, none⟩) := hd 79 (by kernel_rfl)
              have hv9 : (#[Operand.tmp 79, Operand.const (.int .i64 1)] : Array Operand).map fr9.eval = #[.pointer (some ⟨g, 0, none⟩), .int .i64 1] := by simp only [List.map_toArray, List.map_cons, List.map_nil, Act.eval, e79]
              refine op_call rfl (run_callL _ _ _ 80 _ _ _ rfl rfl hv9 (enters_of Try.func80 (by kernel_rfl) rfl)) ?_
              refine (s_l20Flow g p' 1 wq q2 (by omega) (by omega) (by omega)).mono ?_
              rintro e w5 ⟨x0, x1, x2, x3, x4, rfl, ⟨p5, hp5, hr5⟩, g5⟩
              exact ⟨_, rfl, _, rfl, ⟨x0, x1, x2, x3, x4, rfl⟩, g5, p5, by omega, hr5⟩
            · refine opR_val (d := 81) rfl rfl (fun fr9 wq hf hd hb => ⟨.int .i64 nw, ?_, ?_⟩) _
              · exact (run_mv _ _ _ (.tmp 8) _ (hf 8 (by kernel_rfl))).1 rfl
              · exact rfl
            · refine opR_val (d := 82) rfl rfl (fun fr9 wq hf hd hb => ?_) _
              obtain ⟨x0, x1, x2, x3, x4, e0⟩ : FlowP (fr9.tmps.getD 80 undef) := hd 80 (by kernel_rfl)
              have e1 : fr9.tmps.getD 81 undef = .int .i64 nw := hd 81 (by kernel_rfl)
              refine ⟨_, run_bE2 _ _ _ _ _ _ _ _ _ _ _ rfl e0 e1, ?_⟩
              exact ⟨_, _, _, _, _, _, _, rfl⟩
            · refine opR_of (d := 83) rfl rfl (fun k9 fr9 wq hk hf hd hb hW => ?_) _
              obtain ⟨p', q1, q2⟩ := hW
              obtain ⟨x0, x1, x2, x3, x4, x5, x6, e0⟩ : EntP (fr9.tmps.getD 82 undef) := hd 82 (by kernel_rfl)
              exact wp_val2 rfl (run_bsE _ _ _ (.tmp 82) _ _ _ _ _ _ _ rfl e0) ⟨_, rfl, ⟨wq.heap.size, x0, x1, x2, x3, x4, x5, x6, rfl, hb.size, Box.new _ _ _⟩, grownBy_alloc _ _ _, p', by omega, q2.keep (grownBy_alloc _ _ _)⟩
          · intro fq wq hf hgr ⟨p9, hp9, hr9⟩
            have e77 : fq 77 = .pointer (some ⟨b, 2, none⟩) := hf 77 (by decide)
            have e78 : fq 78 = .slice a es.length cap := hf 78 (by decide)
            have e79 : fq 79 = .pointer (some ⟨g, 0, none⟩) := hf 79 (by decide)
            obtain ⟨f0, f1, f2, f3, f4, e80⟩ : FlowP (fq 80) := hf 80 (by decide)
            have e81 : fq 81 = .int .i64 nw := hf 81 (by decide)
            obtain ⟨z0, z1, z2, z3, z4, z5, z6, e82⟩ : EntP (fq 82) := hf 82 (by decide)
            obtain ⟨k, x0, x1, x2, x3, x4, x5, x6, e83, hk, hB⟩ : EntS w7.heap.size (fq 83) wq := hf 83 (by decide)
            simp only [List.drop_succ_cons, List.drop_zero, putL, Act.put, List.setIfInBounds_toArray, List.set_cons_succ, List.set_cons_zero, e77, e78, e79, e80, e81, e82, e83]
            clear hf e77 e78 e79 e80 e81 e82 e83
            have HC8 := Lib.hid (HC7.out.by hgr hr9)
            have HBN := Lib.hid hB
            clear hgr hr9 hB HC7 c0 c1 c2 cf
            obtain ⟨c0, c1, c2, cf⟩ := HC8.out.bx.three
            have hwz : w.heap.size ≤ wq.heap.size := HC8.out.gr.size
            go_wp2_with (at_builtin; refine wpl_app _ rfl elemEntry (.tmp 78) (.tmp 83) rfl w.heap.size (.slice a es.length cap) es.length _ rfl HC8.out.own ⟨k, 0, none⟩ 1 1 _ rfl rfl (news_of HBN.out) (one7 _ _ _ _ _ _ _) (by decide) (by omega) hwz (es.length + 1) rfl (eCells (es ++ [((x0, x1, x2, x3, x4), x5, x6)])) (eCells_app _ [((x0, x1, x2, x3, x4), x5, x6)]) ?_)
            intro g9 c9 w9 o9 gr9 hat hlt9
            have hlen : (es ++ [((x0, x1, x2, x3, x4), x5, x6)]).length = es.length + 1 := by simp
            have hbx : Box w9 b 30 [.int .i64 N, .int .i64 R, .slice a es.length cap] := HC8.out.bx.kept gr9 (row_ne HC8.out.own HC8.out.bx (by decide))
            have hrs : Box w9 w.heap.size 30 [.int .i64 0, .int .i64 0, .slice none 0 0] := HC8.out.res.kept gr9 (row_ne HC8.out.own HC8.out.res (by decide))
            have hown8 := HC8.out.own.lt
            have hlo := HC8.out.lo
            have hgw := HC8.out.gw
            have hD1 : D ≤ g := HC8.out.rd.1
            have hgr9 : w.grownBy w9 (some g) := gb_row9 HC8.out.gr gr9 (fun q hq => (hown8 q hq).1)
            have hrd9 : Rd D w9 g p9 := by
              cases hob : (Value.slice a es.length cap).ownBlock with
              | none => rw [hob] at gr9; exact HC8.out.rd.keep gr9
              | some q => rw [hob] at gr9; have := (hown8 q hob).1; exact HC8.out.rd.far gr9 (by omega) (by omega)
            have HC9 : Hid (TbC D g b p9 w N R es a cap w9 ∨ True) := Lib.hid (.inr trivial)
            have HO9 := Lib.hid o9
            have HBX := Lib.hid hbx
            have HRS := Lib.hid hrs
            have HGR := Lib.hid hgr9
            have HRD := Lib.hid hrd9
            clear HC9 o9 gr9 hat hbx hrs hgr9 hrd9 HC8 HBN c0 c1 c2 cf
            obtain ⟨c0, c1, c2, cf⟩ := HBX.out.three
            go_upto_region 19 with fail
            obtain ⟨W10, hW10⟩ : ∃ W10, W10 = w9.setCell ⟨b, 2, none⟩ (.slice (some ⟨g9, 0, none⟩) (es.length + 1) c9) := ⟨_, rfl⟩
            have HCA : Hid (TbC D g b p9 w N R (es ++ [((x0, x1, x2, x3, x4), x5, x6)]) (some ⟨g9, 0, none⟩) c9 W10) := Lib.hid (by
              have hne := row_ne HO9.out HBX.out (by decide)
              rw [hW10]
              refine ⟨?_, ?_, HRS.out.other (by simp; omega) _, hlo, hgw, HRD.out.other (by omega) (by omega) _ _, gb_set HGR.out (b := b) (by omega) _ _⟩
              · rw [hlen]; exact HBX.out.set 2 _
              · rw [hlen]; exact row_set HO9.out _ _ hne)
            rw [← hW10]
            clear hW10 HO9 HBX HRS HGR HRD c0 c1 c2 cf
            have HF := HCA.out.bx
            rw [hlen] at HF
            obtain ⟨c0, c1, c2, cf⟩ := HF.three
            obtain ⟨r0, r1, r2, rf⟩ := HCA.out.res.three
            have hlo := HCA.out.lo
            go_wp2
            refine bodyPost_ret (v := .agg #[.int .i64 N, .int .i64 R, .slice (some ⟨g9, 0, none⟩) (es.length + 1) c9]) (by simp [results, Try.results79, go_sem, r0, r1, r2]) rfl ?_
            have hgw9 := HCA.out.gw
            have hD9 : D ≤ w.heap.size := by have := HCA.out.rd.1; omega
            have hne := row_ne HCA.out.own HCA.out.res (by decide)
            have hown := HCA.out.own
            refine ⟨N, R, (some ⟨g9, 0, none⟩), c9, (es ++ [((x0, x1, x2, x3, x4), x5, x6)]), by rw [hlen], by rw [hlen]; omega, row_set (row_set (row_set hown _ _ hne) _ _ hne) _ _ hne, ⟨_, ?_, ((HCA.out.rd.other hD9 (by omega) _ _).other hD9 (by omega) _ _).other hD9 (by omega) _ _⟩, gb_set (gb_set (gb_set HCA.out.gr (Nat.le_refl _) _ _) (Nat.le_refl _) _ _) (Nat.le_refl _) _ _⟩
            omega
        · skip
          obtain ⟨c0, c1, c2, cf⟩ := HC7.out.bx.three
          have hgw7 : g < w7.heap.size := HC7.out.rd.lt
          have hDw : D ≤ w7.heap.size := by have := HC7.out.rd.1; omega
          go_upto_region 12 with fail
          refine region_draw _ D g _ 40 7 87 [55, 56, 57, 58, 59, 60, 61] [] [(55, fun v _ => v = .pointer (some ⟨b, 2, none⟩)), (56, fun v _ => v = .slice a es.length cap), (57, fun v _ => v = .pointer (some ⟨g, 0, none⟩)), (58, fun v _ => FlowP v), (59, fun v _ => v = .int .i64 nw), (60, fun v _ => EntP v), (61, EntS w7.heap.size)] rfl (by kernel_rfl) hgw7 hDw HC7.out.rd (fun s hs => by cases hs) ?_ (fun s hs => by cases hs) rfl ?_ ?_
          · intro q hq
            simp only [List.mem_cons, List.not_mem_nil, or_false] at hq
            rcases hq with rfl | rfl | rfl | rfl | rfl | rfl | rfl
            · exact stb_pure _
            · exact stb_pure _
            · exact stb_pure _
            · exact stb_pure _
            · exact stb_pure _
            · exact stb_pure _
            · intro v w w' ⟨k, x0, x1, x2, x3, x4, x5, x6, h1, h2, h3⟩ hg
              exact ⟨k, x0, x1, x2, x3, x4, x5, x6, h1, h2, gr_box hg (by omega) (.inl (fun s hs => by cases hs)) h3⟩
          · refine ⟨?_, ?_, ?_, ?_, ?_, ?_, ?_, trivial⟩
            · refine opR_val (d := 55) rfl rfl (fun fr9 wq hf hd hb => ⟨.pointer (some ⟨b, 2, none⟩), ?_, ?_⟩) _
              · exact run_faT _ _ _ (.tmp 7) b rfl (hf 7 (by kernel_rfl))
              · exact rfl
            · refine opR_val (d := 56) rfl rfl (fun fr9 wq hf hd hb => ⟨.slice a es.length cap, ?_, ?_⟩) _
              · exact run_ldS _ _ _ (.tmp 55) b 2 _ rfl (hd 55 (by kernel_rfl)) ((HC7.out.bx.by hb (by have := HC7.out.lo; have := HC7.out.gw; omega)).cell 2)
              · exact rfl
            · refine opR_val (d := 57) rfl rfl (fun fr9 wq hf hd hb => ⟨.pointer (some ⟨g, 0, none⟩), ?_, ?_⟩) _
              · exact (run_mv _ _ _ (.tmp 0) _ (hf 0 (by kernel_rfl))).1 rfl
              · exact rfl
            · refine opR_of (d := 58) rfl rfl (fun k9 fr9 wq hk hf hd hb hW => ?_) _
              obtain ⟨p', q1, q2⟩ := hW
              have e57 : fr9.tmps.getD 57 undef = .pointer (some ⟨g, 0, none⟩) := hd 57 (by kernel_rfl)
              have hv9 : (#[Operand.tmp 57, Operand.const (.int .i64 0)] : Array Operand).map fr9.eval = #[.pointer (some ⟨g, 0, none⟩), .int .i64 0] := by simp only [List.map_toArray, List.map_cons, List.map_nil, Act.eval, e57]
              refine op_call rfl (run_callL _ _ _ 80 _ _ _ rfl rfl hv9 (enters_of Try.func80 (by kernel_rfl) rfl)) ?_
              refine (s_l20Flow g p' 0 wq q2 (by omega) (by omega) (by omega)).mono ?_
              rintro e w5 ⟨x0, x1, x2, x3, x4, rfl, ⟨p5, hp5, hr5⟩, g5⟩
              exact ⟨_, rfl, _, rfl, ⟨x0, x1, x2, x3, x4, rfl⟩, g5, p5, by omega, hr5⟩
            · refine opR_val (d := 59) rfl rfl (fun fr9 wq hf hd hb => ⟨.int .i64 nw, ?_, ?_⟩) _
              · exact (run_mv _ _ _ (.tmp 8) _ (hf 8 (by kernel_rfl))).1 rfl
              · exact rfl
            · refine opR_val (d := 60) rfl rfl (fun fr9 wq hf hd hb => ?_) _
              obtain ⟨x0, x1, x2, x3, x4, e0⟩ : FlowP (fr9.tmps.getD 58 undef) := hd 58 (by kernel_rfl)
              have e1 : fr9.tmps.getD 59 undef = .int .i64 nw := hd 59 (by kernel_rfl)
              refine ⟨_, run_bE _ _ _ _ _ _ _ _ _ _ _ _ _ rfl e0 rfl e1, ?_⟩
              exact ⟨_, _, _, _, _, _, _, rfl⟩
            · refine opR_of (d := 61) rfl rfl (fun k9 fr9 wq hk hf hd hb hW => ?_) _
              obtain ⟨p', q1, q2⟩ := hW
              obtain ⟨x0, x1, x2, x3, x4, x5, x6, e0⟩ : EntP (fr9.tmps.getD 60 undef) := hd 60 (by kernel_rfl)
              exact wp_val2 rfl (run_bsE _ _ _ (.tmp 60) _ _ _ _ _ _ _ rfl e0) ⟨_, rfl, ⟨wq.heap.size, x0, x1, x2, x3, x4, x5, x6, rfl, hb.size, Box.new _ _ _⟩, grownBy_alloc _ _ _, p', by omega, q2.keep (grownBy_alloc _ _ _)⟩
          · intro fq wq hf hgr ⟨p9, hp9, hr9⟩
            have e55 : fq 55 = .pointer (some ⟨b, 2, none⟩) := hf 55 (by decide)
            have e56 : fq 56 = .slice a es.length cap := hf 56 (by decide)
            have e57 : fq 57 = .pointer (some ⟨g, 0, none⟩) := hf 57 (by decide)
            obtain ⟨f0, f1, f2, f3, f4, e58⟩ : FlowP (fq 58) := hf 58 (by decide)
            have e59 : fq 59 = .int .i64 nw := hf 59 (by decide)
            obtain ⟨z0, z1, z2, z3, z4, z5, z6, e60⟩ : EntP (fq 60) := hf 60 (by decide)
            obtain ⟨k, x0, x1, x2, x3, x4, x5, x6, e61, hk, hB⟩ : EntS w7.heap.size (fq 61) wq := hf 61 (by decide)
            simp only [List.drop_succ_cons, List.drop_zero, putL, Act.put, List.setIfInBounds_toArray, List.set_cons_succ, List.set_cons_zero, e55, e56, e57, e58, e59, e60, e61]
            clear hf e55 e56 e57 e58 e59 e60 e61
            have HC8 := Lib.hid (HC7.out.by hgr hr9)
            have HBN := Lib.hid hB
            clear hgr hr9 hB HC7 c0 c1 c2 cf
            obtain ⟨c0, c1, c2, cf⟩ := HC8.out.bx.three
            have hwz : w.heap.size ≤ wq.heap.size := HC8.out.gr.size
            go_wp2_with (at_builtin; refine wpl_app _ rfl elemEntry (.tmp 56) (.tmp 61) rfl w.heap.size (.slice a es.length cap) es.length _ rfl HC8.out.own ⟨k, 0, none⟩ 1 1 _ rfl rfl (news_of HBN.out) (one7 _ _ _ _ _ _ _) (by decide) (by omega) hwz (es.length + 1) rfl (eCells (es ++ [((x0, x1, x2, x3, x4), x5, x6)])) (eCells_app _ [((x0, x1, x2, x3, x4), x5, x6)]) ?_)
            intro g9 c9 w9 o9 gr9 hat hlt9
            have hlen : (es ++ [((x0, x1, x2, x3, x4), x5, x6)]).length = es.length + 1 := by simp
            have hbx : Box w9 b 30 [.int .i64 N, .int .i64 R, .slice a es.length cap] := HC8.out.bx.kept gr9 (row_ne HC8.out.own HC8.out.bx (by decide))
            have hrs : Box w9 w.heap.size 30 [.int .i64 0, .int .i64 0, .slice none 0 0] := HC8.out.res.kept gr9 (row_ne HC8.out.own HC8.out.res (by decide))
            have hown8 := HC8.out.own.lt
            have hlo := HC8.out.lo
            have hgw := HC8.out.gw
            have hD1 : D ≤ g := HC8.out.rd.1
            have hgr9 : w.grownBy w9 (some g) := gb_row9 HC8.out.gr gr9 (fun q hq => (hown8 q hq).1)
            have hrd9 : Rd D w9 g p9 := by
              cases hob : (Value.slice a es.length cap).ownBlock with
              | none => rw [hob] at gr9; exact HC8.out.rd.keep gr9
              | some q => rw [hob] at gr9; have := (hown8 q hob).1; exact HC8.out.rd.far gr9 (by omega) (by omega)
            have HC9 : Hid (TbC D g b p9 w N R es a cap w9 ∨ True) := Lib.hid (.inr trivial)
            have HO9 := Lib.hid o9
            have HBX := Lib.hid hbx
            have HRS := Lib.hid hrs
            have HGR := Lib.hid hgr9
            have HRD := Lib.hid hrd9
            clear HC9 o9 gr9 hat hbx hrs hgr9 hrd9 HC8 HBN c0 c1 c2 cf
            obtain ⟨c0, c1, c2, cf⟩ := HBX.out.three
            go_upto_region 19 with fail
            obtain ⟨W10, hW10⟩ : ∃ W10, W10 = w9.setCell ⟨b, 2, none⟩ (.slice (some ⟨g9, 0, none⟩) (es.length + 1) c9) := ⟨_, rfl⟩
            have HCA : Hid (TbC D g b p9 w N R (es ++ [((x0, x1, x2, x3, x4), x5, x6)]) (some ⟨g9, 0, none⟩) c9 W10) := Lib.hid (by
              have hne := row_ne HO9.out HBX.out (by decide)
              rw [hW10]
              refine ⟨?_, ?_, HRS.out.other (by simp; omega) _, hlo, hgw, HRD.out.other (by omega) (by omega) _ _, gb_set HGR.out (b := b) (by omega) _ _⟩
              · rw [hlen]; exact HBX.out.set 2 _
              · rw [hlen]; exact row_set HO9.out _ _ hne)
            rw [← hW10]
            clear hW10 HO9 HBX HRS HGR HRD c0 c1 c2 cf
            have HF := HCA.out.bx
            rw [hlen] at HF
            obtain ⟨c0, c1, c2, cf⟩ := HF.three
            obtain ⟨r0, r1, r2, rf⟩ := HCA.out.res.three
            have hlo := HCA.out.lo
            go_wp2
            refine bodyPost_ret (v := .agg #[.int .i64 N, .int .i64 R, .slice (some ⟨g9, 0, none⟩) (es.length + 1) c9]) (by simp [results, Try.results79, go_sem, r0, r1, r2]) rfl ?_
            have hgw9 := HCA.out.gw
            have hD9 : D ≤ w.heap.size := by have := HCA.out.rd.1; omega
            have hne := row_ne HCA.out.own HCA.out.res (by decide)
            have hown := HCA.out.own
            refine ⟨N, R, (some ⟨g9, 0, none⟩), c9, (es ++ [((x0, x1, x2, x3, x4), x5, x6)]), by rw [hlen], by rw [hlen]; omega, row_set (row_set (row_set hown _ _ hne) _ _ hne) _ _ hne, ⟨_, ?_, ((HCA.out.rd.other hD9 (by omega) _ _).other hD9 (by omega) _ _).other hD9 (by omega) _ _⟩, gb_set (gb_set (gb_set HCA.out.gr (Nat.le_refl _) _ _) (Nat.le_refl _) _ _) (Nat.le_refl _) _ _⟩
            omega
end Go.Proofs.Ytdkdfehlmphikaa
