/- Regions that draw their order and whose operations make memory: each slot's fact stays true whatever the others do, so the order does not matter. No condition. -/
import Derived.Test.YtalalapjanckdaaRegG
import Derived.Test.YtalalapjanckdaaBas
namespace Go.Proofs.Ytalalapjanckdaa
open Go.RowKit
/-- What is said of a slot. -/
inductive SP where
  | val (v : Value)
  | row (B : Nat) (e : TypeId) (size n : Nat) (vs : List Value) (f : Value → Value)
  | bx (B : Nat) (T : TypeId) (cs : List Value)
  | any
def SP.Has : SP → Value → World → Prop
  | .val u, v, _ => v = u
  | .row B e size n vs f, v, w => ∃ (a : Option Addr) (c : Nat), v = f (.slice a n c) ∧ w.ownsRow B e size (.slice a n c) n vs
  | .bx B T cs, v, w => ∃ g, v = .pointer (some ⟨g, 0, none⟩) ∧ B ≤ g ∧ Box w g T cs
  | .any, _, _ => True
theorem SP.stable (s : SP) {v : Value} {w w' : World} (h : s.Has v w) (hb : Below w.heap.size w w') : s.Has v w' := by
  cases s with
  | val u => exact h
  | row B e size n vs f =>
    obtain ⟨a, c, h1, h2⟩ := h
    exact ⟨a, c, h1, row_below h2 hb⟩
  | bx B T cs =>
    obtain ⟨g, h1, h2, h3⟩ := h
    exact ⟨g, h1, h2, h3.keep hb⟩
  | any => trivial
def spAt : List (Tmp × SP) → Tmp → SP
  | [], _ => .any
  | (s, p) :: r, d => if d = s then p else spAt r d
/-- What an operation of such a region is asked. -/
def OpAny (l : List Oper) (n : Nat) (a0 : Act) (w0 : World) (tys : List (Tmp × SP)) (Q : Exit → Act → World → Prop) (_ : Nat) (o : Oper) : Prop :=
  ∀ a w, (∀ s, isDst l.toArray n s = false → a.tmps.getD s undef = a0.tmps.getD s undef) →
     (∀ s, (o.after.any fun e => Region.binds .any e && decide (dstOf l.toArray e.on = some s)) = true → (spAt tys s).Has (a.tmps.getD s undef) w) → Below w0.heap.size w0 w →
     ∃ d, o.dst = some d ∧ Oper.wp Try.prog o a w (fun a' w' => ∃ v, a' = a.put (some d) v ∧ (spAt tys d).Has v w' ∧ Below w.heap.size w w') Q
theorem region_any {id : Nat} {a0 : Act} {w0 : World} {Q : Exit → Act → World → Prop} (l : List Oper) (n size : Nat) (ds : List Tmp) (tys : List (Tmp × SP)) (hsize : a0.tmps.size = size)
    (hok : (regOkG l.toArray size n && decide (ds = (List.range n).filterMap (dstOf l.toArray))) = true)
    (hop : AllOps (OpAny l n a0 w0 tys Q) 0 (l.take n))
    (htail : ∀ (f : Tmp → Value) (w : World), (∀ d, d ∈ ds → (spAt tys d).Has (f d) w) → Below w0.heap.size w0 w → wpList Try.prog l.toArray Q (l.drop n) (putL ds f a0) w) :
    (Code.region id l.toArray true).wp Try.prog Q a0 w0 := by
  simp only [Bool.and_eq_true, decide_eq_true_eq] at hok
  obtain ⟨h1, hds⟩ := hok
  have hmemds : ∀ s, s ∈ ds ↔ ∃ j, j < n ∧ dstOf l.toArray j = some s := fun s => by
    rw [hds, List.mem_filterMap]
    exact ⟨fun ⟨j, hj, e⟩ => ⟨j, List.mem_range.1 hj, e⟩, fun ⟨j, hj, e⟩ => ⟨j, List.mem_range.2 hj, e⟩⟩
  have hdr : Below w0.heap.size w0 w0.drew := (Below.refl _ _).drew
  refine region_typedG (G := fun w w' => Below w.heap.size w w') (T := fun d => (spAt tys d).Has) (F := fun _ _ => True) (W := fun _ _ => True) (fun a => Below.refl _ _) (fun a b c h k => Below.step h k h.size) (by kernel_rfl) l n size hsize h1
    (fun d v w w' hh hg => SP.stable _ hh hg) (fun _ _ _ _ _ => trivial) trivial ?_ ?_
  · have hall : ∀ (m : Nat) (r : List Oper), AllOps (OpAny l n a0 w0 tys Q) m r → AllOps (fun i o => ∀ k a w, k < n → a.defers = a0.defers → (∀ s, (∀ j, j < n → dstOf l.toArray j ≠ some s) → a.tmps.getD s undef = a0.tmps.getD s undef) →
      (∀ s, (∃ e ∈ o.after, Region.binds .any e = true ∧ dstOf l.toArray e.on = some s) → (spAt tys s).Has (a.tmps.getD s undef) w) → Below w0.drew.heap.size w0.drew w → True →
      Oper.wp Try.prog o a w (PostG (fun w w' => Below w.heap.size w w') (fun d => (spAt tys d).Has) (fun _ _ => True) (fun _ _ => True) k i o a w) Q) m r := by
      intro m r
      induction r generalizing m with
      | nil => intro _; trivial
      | cons o r ih =>
        rintro ⟨ho, hr⟩
        refine ⟨?_, ih _ hr⟩
        intro k a w _ _ hfrm hdep hgr _
        obtain ⟨d, hd, hwp⟩ := ho a w (fun s hs => hfrm s fun j hj hjs => by
            have : isDst l.toArray n s = true := List.any_eq_true.2 ⟨j, List.mem_range.2 hj, by simpa using hjs⟩
            rw [this] at hs; cases hs) (fun s hs => by
            obtain ⟨e, he, hb⟩ := Array.any_eq_true'.1 hs
            simp only [Bool.and_eq_true, decide_eq_true_eq] at hb
            exact hdep s ⟨e, he, hb.1, hb.2⟩) (Below.step hdr hgr hdr.size)
        refine Oper.wp_mono (fun a' w' hg => ?_) hwp
        obtain ⟨v, ha, hT, hgg⟩ := hg
        refine ⟨hgg, trivial, ?_⟩
        rw [hd]
        exact ⟨v, ha, hT⟩
    exact hall 0 _ hop
  · intro a w hsz hdef hfrm htyp _ hgr _
    have hpe := putL_eq (ds := ds) (a0 := a0) (a := a) (by rw [hsz, hsize]) hdef (fun s hs => hfrm s (fun j hj hjs => hs ((hmemds s).2 ⟨j, hj, hjs⟩)))
    rw [← hpe]
    exact htail (fun d => a.tmps.getD d undef) w (fun d hd => by
      obtain ⟨j, hj, hjs⟩ := (hmemds d).1 hd
      exact htyp j d hj hjs) (Below.step hdr hgr hdr.size)
/-- A call, by its contract. -/
theorem op_call {Q : Exit → Act → World → Prop} {o : Oper} {d : Tmp} {a : Act} {w : World} {K : Act → World → Prop} {F : FuncId} {vals : Array Value} (hd : o.dst = some d) (hr : (execOp a.eval o).run Try.prog w = .ok (.enter F vals) w)
    (h : Calls Try.prog F vals w fun e w' => ∃ v, e = .returned v ∧ K (a.put (some d) v) w') : Oper.wp Try.prog o a w K Q := by
  unfold Oper.wp
  rw [hr]
  refine h.mono ?_
  rintro e w' ⟨v, rfl, hK⟩
  rw [hd]
  exact hK
/-- What is yielded while the world stays. -/
theorem op_val {l : List Oper} {n : Nat} {a0 : Act} {w0 : World} {tys : List (Tmp × SP)} {Q : Exit → Act → World → Prop} {o : Oper} {d : Tmp} (hd : o.dst = some d) (v : Value)
    (h : ∀ (a : Act) (w : World), (∀ s, isDst l.toArray n s = false → a.tmps.getD s undef = a0.tmps.getD s undef) → (∀ s, (o.after.any fun e => Region.binds .any e && decide (dstOf l.toArray e.on = some s)) = true → (spAt tys s).Has (a.tmps.getD s undef) w) → Below w0.heap.size w0 w →
      (execOp a.eval o).run Try.prog w = .ok (.value v) w ∧ (spAt tys d).Has v w) (k : Nat) : OpAny l n a0 w0 tys Q k o := fun a w h1 h2 h3 =>
  ⟨d, hd, wp_val2 hd (h a w h1 h2 h3).1 ⟨v, rfl, (h a w h1 h2 h3).2, Below.refl _ _⟩⟩
/-- A box is laid. -/
theorem op_alloc {l : List Oper} {n : Nat} {a0 : Act} {w0 : World} {tys : List (Tmp × SP)} {Q : Exit → Act → World → Prop} {o : Oper} {d : Tmp} (hd : o.dst = some d) (T : TypeId) (cs : List Value) (B : Nat) (hB : B ≤ w0.heap.size) (ht : spAt tys d = .bx B T cs)
    (h : ∀ (ρ : Operand → Value) (w : World), (execOp ρ o).run Try.prog w = .ok (.value (.pointer (some ⟨w.heap.size, 0, none⟩))) (w.alloc (.cells cs.toArray T))) (k : Nat) : OpAny l n a0 w0 tys Q k o := fun a w _ _ h3 =>
  ⟨d, hd, wp_val2 hd (h a.eval w) ⟨_, rfl, by rw [ht]; exact ⟨w.heap.size, rfl, Nat.le_trans hB h3.size, Box.new _ _ _⟩, (Below.refl _ _).alloc (Nat.le_refl _) _⟩⟩
end Go.Proofs.Ytalalapjanckdaa
