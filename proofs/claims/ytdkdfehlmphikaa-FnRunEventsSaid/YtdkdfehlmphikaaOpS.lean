/- Single operations of drawn regions that store into new boxes: as those of OpA. No condition. -/
import Derived.Test.YtdkdfehlmphikaaMG
import Derived.Test.YtdkdfehlmphikaaMD
namespace Go.Proofs.Ytdkdfehlmphikaa
open Go.RowKit
/-- That all on which an operation waits are no boxes' slots. -/
def freeDeps (l : List Oper) (S : List BS) (o : Oper) : Bool := o.after.all fun e => !Region.binds .any e || (match dstOf l.toArray e.on with | some s => (bsAt S s).isNone | none => true)
/-- An operation that knows no boxes, as OpA shows it. -/
theorem opS_any {l : List Oper} {n : Nat} {a0 : Act} {w0 : World} {S : List BS} {tys : List (Tmp × SP)} {Q : Exit → Act → World → Prop} {o : Oper} {d : Tmp} {k : Nat} (hd : o.dst = some d) (hb : bsAt S d = none) (hf : freeDeps l S o = true)
    (h : OpAny l n a0 w0 tys Q k o) : OpS l n a0 w0 S tys Q k o := by
  intro a w h1 h2 h3
  obtain ⟨d', hd', hwp⟩ := h a w h1 (fun s hs => by
    have h4 := h2 s hs
    obtain ⟨e, he, hbe⟩ := Array.any_eq_true'.1 hs
    simp only [Bool.and_eq_true, decide_eq_true_eq] at hbe
    have h5 : bsAt S s = none := by
      obtain ⟨m, hm, rfl⟩ := Array.mem_iff_getElem.1 he
      have := Array.all_eq_true.1 hf m hm
      rw [hbe.1, hbe.2] at this
      simpa using this
    unfold SHas at h4
    rw [h5] at h4
    exact h4) h3
  have : d' = d := Option.some.inj (hd'.symm.trans hd)
  subst this
  simp only [hd]
  refine Oper.wp_mono (fun a' w' hg => ?_) hwp
  obtain ⟨v, e1, e2, e3⟩ := hg
  refine ⟨v, e1, ?_, e3⟩
  unfold SHas
  rw [hb]
  exact e2
theorem opS_alloc {l : List Oper} {n : Nat} {a0 : Act} {w0 : World} {S : List BS} {tys : List (Tmp × SP)} {Q : Exit → Act → World → Prop} {o : Oper} {d : Tmp} {s : BS} (hd : o.dst = some d) (hb : bsAt S d = some s)
    (h : ∀ (ρ : Operand → Value) (w : World), (execOp ρ o).run Try.prog w = .ok (.value (.pointer (some ⟨w.heap.size, 0, none⟩))) (w.alloc (.cells s.cs0.toArray s.T))) (k : Nat) : OpS l n a0 w0 S tys Q k o := by
  intro a w h1 h2 h3
  simp only [hd]
  refine wp_val2 hd (h a.eval w) ⟨_, rfl, ?_, (Below.refl _ _).alloc (Nat.le_refl _) _⟩
  unfold SHas
  rw [hb]
  exact ⟨w.heap.size, rfl, h3.size, .inl (Box.new _ _ _)⟩
theorem wp_skip {Q : Exit → Act → World → Prop} {o : Oper} {a : Act} {w w1 : World} {K : Act → World → Prop} (hd : o.dst = none) (h : (execOp a.eval o).run Try.prog w = .ok .skip w1) (hK : K a w1) : Oper.wp Try.prog o a w K Q := by
  unfold Oper.wp
  rw [h]
  have : K (a.put o.dst undef) w1 := by rw [hd]; exact hK
  exact this
/-- The store of a slot's value into a box. -/
theorem opS_store {l : List Oper} {n : Nat} {a0 : Act} {w0 : World} {S : List BS} {tys : List (Tmp × SP)} {Q : Exit → Act → World → Prop} {o : Oper} {s : BS} (c d : Tmp) (T : TypeId) (hd : o.dst = none) (ho : o.op = .store T (.tmp c) (.tmp d)) (hsb : bsAt S c = some s) (hdb : bsAt S d = none)
    (hc : (o.after.any fun e => Region.binds .any e && decide (dstOf l.toArray e.on = some c)) = true) (hc2 : (o.after.any fun e => Region.binds .any e && decide (dstOf l.toArray e.on = some d)) = true) (htd : spAt tys d = s.src)
    (hrun : ∀ (ρ : Operand → Value) (w : World) (g : Nat) (cs : List Value) (u : Value), ρ (.tmp c) = .pointer (some ⟨g, 0, none⟩) → ρ (.tmp d) = u → Box w g s.T cs → (cs = s.cs0 ∨ ∃ u', cs = u'.cells.toList ∧ s.src.Has u' w) → s.src.Has u w →
      ∃ w', (execOp ρ o).run Try.prog w = .ok .skip w' ∧ Box w' g s.T u.cells.toList ∧ w.grownBy w' (some g) ∧ w'.heap.size = w.heap.size) (k : Nat) : OpS l n a0 w0 S tys Q k o := by
  intro a w h1 h2 h3
  simp only [hd]
  obtain ⟨hs, rfl⟩ := bsAt_mem hsb
  have h4 := h2 _ hc
  unfold SHas at h4
  rw [hsb] at h4
  obtain ⟨g, e1, e2, e3⟩ := h4
  have h5 := h2 _ hc2
  unfold SHas at h5
  rw [hdb] at h5
  dsimp only at h5
  rw [htd] at h5
  obtain ⟨cs, hb, hcs⟩ : ∃ cs, Box w g s.T cs ∧ (cs = s.cs0 ∨ ∃ u', cs = u'.cells.toList ∧ s.src.Has u' w) := by
    rcases e3 with e3 | ⟨u, e3, e4⟩
    · exact ⟨_, e3, .inl rfl⟩
    · exact ⟨_, e3, .inr ⟨u, rfl, e4⟩⟩
  obtain ⟨w', hr, b1, b2, b3⟩ := hrun a.eval w g cs _ e1 rfl hb hcs h5
  refine ⟨s, ?_, hs, hc, wp_skip hd hr ⟨rfl, g, cs, _, e1, e2, hb, b1, h5, b2, b3⟩⟩
  unfold stBox
  simp only [hd, ho]
  exact hsb
theorem spAt_free {S : List BS} : ∀ {tys : List (Tmp × SP)}, (tys.all fun p => spFree S p.2) = true → ∀ d, spFree S (spAt tys d) = true
  | [], _, _ => rfl
  | (s, p) :: r, h, d => by
    simp only [List.all_cons, Bool.and_eq_true] at h
    unfold spAt
    split
    · exact h.1
    · exact spAt_free h.2 d
theorem bs_one {x : BS} (h : spFree [x] x.src = true) : (∀ s ∈ [x], spFree [x] s.src = true) ∧ ∀ s ∈ [x], ∀ s' ∈ [x], s.T = s'.T → s = s' :=
  ⟨fun s hs => by rw [List.mem_singleton.1 hs]; exact h, fun s hs s' hs' _ => by rw [List.mem_singleton.1 hs, List.mem_singleton.1 hs']⟩
theorem bs_two {x y : BS} (h : spFree [x, y] x.src = true) (h' : spFree [x, y] y.src = true) (hn : x.T ≠ y.T) : (∀ s ∈ [x, y], spFree [x, y] s.src = true) ∧ ∀ s ∈ [x, y], ∀ s' ∈ [x, y], s.T = s'.T → s = s' := by
  refine ⟨fun s hs => ?_, fun s hs s' hs' he => ?_⟩
  · simp only [List.mem_cons, List.not_mem_nil, or_false] at hs
    rcases hs with rfl | rfl
    · exact h
    · exact h'
  · simp only [List.mem_cons, List.not_mem_nil, or_false] at hs hs'
    rcases hs with rfl | rfl <;> rcases hs' with rfl | rfl
    · rfl
    · exact absurd he hn
    · exact absurd he.symm hn
    · rfl
theorem run_ext (o : Oper) (ρ : Operand → Value) (w : World) (x : Operand) (k : Nat) (vs : Array Value) (v : Value) (ho : o.op = .extract x k) (hx : ρ x = .tuple vs) (hv : vs[k]? = some v) : (execOp ρ o).run Try.prog w = .ok (.value v) w := by
  simp [execOp, ho, hx, hv, go_sem]
/-- A store of three values, one cell each, into a box of three. -/
theorem st3_Ti (o : Oper) (ρ : Operand → Value) (w : World) (x y : Operand) (b : Nat) (c0 c1 c2 : Value) (u v : Int) (a : Option Addr) (n c : Nat) (ho : o.op = .store 30 x y) (hx : ρ x = .pointer (some ⟨b, 0, none⟩)) (hy : ρ y = .agg #[.int .i64 u, .int .i64 v, .slice a n c]) (hb : Box w b 30 [c0, c1, c2]) :
    ∃ w', (execOp ρ o).run Try.prog w = .ok .skip w' ∧ Box w' b 30 (Value.agg #[.int .i64 u, .int .i64 v, .slice a n c]).cells.toList ∧ w.grownBy w' (some b) ∧ w'.heap.size = w.heap.size := by
  obtain ⟨h0, h1, h2, hf⟩ := hb.three
  refine ⟨((w.setCell ⟨b, 0, none⟩ (.int .i64 u)).setCell ⟨b, 1, none⟩ (.int .i64 v)).setCell ⟨b, 2, none⟩ (.slice a n c), ?_, ?_, ?_, ?_⟩
  · have e1 : (w.setCell ⟨b, 0, none⟩ (.int .i64 u)).cell? ⟨b, 1, none⟩ = some c1 := (hb.set 0 _).cell 1
    have e2 : ((w.setCell ⟨b, 0, none⟩ (.int .i64 u)).setCell ⟨b, 1, none⟩ (.int .i64 v)).cell? ⟨b, 2, none⟩ = some c2 := ((hb.set 0 _).set 1 _).cell 2
    simp [execOp, ho, hx, hy, h0, h1, h2, hf, go_sem]
  · exact ((hb.set 0 _).set 1 _).set 2 _
  · exact grownBy_tr (grownBy_tr (gb_setp _ _ _) (gb_setp _ ⟨b, 1, none⟩ _)) (gb_setp _ ⟨b, 2, none⟩ _)
  · simp
/-- A table's box, once its row is laid. -/
theorem st_tableS {ρ : Operand → Value} {o : Oper} {w : World} {B n : Nat} {vs : List Value} {N R : Int} {c d : Tmp} {T : TypeId} (ho : o.op = .store 30 (.tmp c) (.tmp d)) (g : Nat) (cs : List Value) (u : Value)
    (hx : ρ (.tmp c) = .pointer (some ⟨g, 0, none⟩)) (hy : ρ (.tmp d) = u) (hb : Box w g 30 cs)
    (hc : cs = [.int .i64 0, .int .i64 0, .slice none 0 0] ∨ ∃ u', cs = u'.cells.toList ∧ (SP.row B T 7 n vs (fun s => .agg #[.int .i64 N, .int .i64 R, s])).Has u' w) (hu : (SP.row B T 7 n vs (fun s => .agg #[.int .i64 N, .int .i64 R, s])).Has u w) :
    ∃ w', (execOp ρ o).run Try.prog w = .ok .skip w' ∧ Box w' g 30 u.cells.toList ∧ w.grownBy w' (some g) ∧ w'.heap.size = w.heap.size := by
  obtain ⟨a, k, rfl, hr⟩ := hu
  have h3 : ∃ c0 c1 c2, cs = [c0, c1, c2] := by
    rcases hc with h | ⟨u', h, a', k', h', _⟩
    · exact ⟨_, _, _, h⟩
    · subst h'; exact ⟨_, _, _, h⟩
  obtain ⟨c0, c1, c2, rfl⟩ := h3
  exact st3_Ti o ρ w _ _ g c0 c1 c2 N R a n k ho hx hy hb
end Go.Proofs.Ytdkdfehlmphikaa
