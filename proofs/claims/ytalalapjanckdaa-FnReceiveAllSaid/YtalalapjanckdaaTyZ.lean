/- As 'region_checked_x', and besides: a value is stored into a cell of its own ('c'), in whatever order: some operations are shown by hand, the store among them. -/
import Derived.Test.YtalalapjanckdaaTyX
import Derived.Test.YtalalapjanckdaaTyW
namespace Go.Proofs.Ytalalapjanckdaa
open Go.RowKit
variable {D D0 B : Nat}
/-- The world turns only at the reader and at the cell, and there V is laid. -/
structure GrV (g c : Nat) (S : TypeId) (V : Array Value) (w w' : World) : Prop where
  os : w'.os = w.os
  tape : w'.tape = w.tape
  output : w'.output = w.output
  size : w.heap.size ≤ w'.heap.size
  block : ∀ k, k < w.heap.size → k ≠ g → k ≠ c → w'.heap[k]? = w.heap[k]?
  cell : w'.heap[c]? = w.heap[c]? ∨ w'.heap[c]? = some (.cells V S (0, 0))
theorem GrV.rfl' {g c : Nat} {S : TypeId} {V : Array Value} (w : World) : GrV g c S V w w := ⟨rfl, rfl, rfl, Nat.le_refl _, fun _ _ _ _ => rfl, .inl rfl⟩
theorem GrV.tr {g c : Nat} {S : TypeId} {V : Array Value} (x y z : World) (h : GrV g c S V x y) (k : GrV g c S V y z) : GrV g c S V x z :=
  ⟨k.os.trans h.os, k.tape.trans h.tape, k.output.trans h.output, Nat.le_trans h.size k.size, fun i hi h1 h2 => (k.block i (Nat.lt_of_lt_of_le hi h.size) h1 h2).trans (h.block i hi h1 h2), by
    rcases k.cell with e | e
    · rcases h.cell with e' | e'
      · exact .inl (e.trans e')
      · exact .inr (e.trans e')
    · exact .inr e⟩
theorem GrV.of {g c : Nat} {S : TypeId} {V : Array Value} {w w' : World} (h : w.grownBy w' (some g)) (hc : c < w.heap.size) (hcg : c ≠ g) : GrV g c S V w w' :=
  ⟨h.os, h.tape, h.output, h.size, fun k hk h1 _ => h.block k hk (fun e => h1 (by simpa using e)), .inl (h.block c hc (fun e => hcg (by simpa using e)))⟩
theorem GrV.drew {g c : Nat} {S : TypeId} {V : Array Value} (w : World) : GrV g c S V w w.drew := ⟨rfl, rfl, rfl, Nat.le_refl _, fun _ _ _ _ => rfl, .inl rfl⟩
theorem GrV.keeps {g c : Nat} {S : TypeId} {V : Array Value} {w w' : World} (h : GrV g c S V w w') {k : Nat} {o : Obj} (hk : w.heap[k]? = some o) (h1 : k ≠ g) (h2 : k ≠ c) : w'.heap[k]? = some o := (h.block k (lt_of_heap hk) h1 h2).trans hk
theorem Ty.stableV {g c : Nat} {S : TypeId} {V : Array Value} (hcD : c < D) (t : Ty) (v : Value) (w w' : World) (h : t.Has D B g v w) (hg : GrV g c S V w w') : t.Has D B g v w' := by
  cases t with
  | int lo hi => exact h
  | bool => exact h
  | agg ps => exact h
  | rd => exact h
  | any => trivial
  | sl ps =>
    obtain ⟨b, xs, h1, h0, h2, h3, h4⟩ := h
    exact ⟨b, xs, h1, h0, h2, (hg.block b (lt_of_heap h3) h2 (by omega)).trans h3, h4⟩
  | pt lo hi =>
    obtain ⟨b, j, x, h1, h0, h2, h3, h4, h5⟩ := h
    exact ⟨b, j, x, h1, h0, h2, Nat.lt_of_lt_of_le h3 hg.size, (World.cell?_of_block (hg.block b h3 h2 (by omega))).trans h4, h5⟩
  | sb e ps =>
    obtain ⟨b, cs, h1, h0, h2, h3, h4⟩ := h
    exact ⟨b, cs, h1, h0, h2, (hg.block b (lt_of_heap h3) h2 (by omega)).trans h3, h4⟩
  | nb e ps =>
    obtain ⟨b, cs, h1, hB, h0, h2, h3, h4⟩ := h
    exact ⟨b, cs, h1, hB, h0, h2, (hg.block b (lt_of_heap h3) h2 (by omega)).trans h3, h4⟩
theorem GrV.below {g c L : Nat} {S : TypeId} {V : Array Value} {w w' : World} (h : GrV g c S V w w') (hL : L ≤ w.heap.size) (hg : L ≤ g) (hc : L ≤ c) : Below L w w' :=
  ⟨h.os, h.tape, h.output, h.size, fun k hk => h.block k (by omega) (by omega) (by omega)⟩
def checkXG (ops : Array Oper) (size n : Nat) (S : TypeId) (useS : Bool) (fr tys : List (Tmp × Ty)) (ds : List Tmp) (src : List (Tmp × Tmp)) (xk : List Tmp) (ex : List Nat) : Bool :=
  regOkG ops size n && (List.range n).all (xOk ops n S useS fr tys src xk ex) && decide (ds = (List.range n).filterMap (dstOf ops))
/-- What an operation that is shown by hand leaves. -/
def PostV (tys : List (Tmp × Ty)) (src : List (Tmp × Tmp)) (X : List (Tmp × (Value → World → Prop))) (D D0 B g c p k : Nat) (S' : TypeId) (V : Array Value) (a0 : Act) (o : Oper) (a : Act) (w : World) (a' : Act) (w' : World) : Prop :=
  GrV g c S' V w w' ∧ (∃ p', p' ≤ p + (k + 1) ∧ Rd D0 w' g p') ∧ match o.dst with | some d => ∃ v, a' = a.put (some d) v ∧ TX tys src X D B g a0 d v w' | none => a' = a ∧ w'.heap[c]? = some (.cells V S' (0, 0))
theorem region_checked_xc {id : Nat} {a0 : Act} {w0 : World} {Q : Exit → Act → World → Prop} (l : List Oper) (S : TypeId) (useS : Bool) (n size g p c : Nat) (S' : TypeId) (V : Array Value) (fr tys : List (Tmp × Ty)) (ds : List Tmp) (src : List (Tmp × Tmp)) (X : List (Tmp × (Value → World → Prop))) (xk : List Tmp) (ex : List Nat) (hsize : a0.tmps.size = size)
    (hok : checkXG l.toArray size n S useS fr tys ds src xk ex = true) (hxk : X.map (·.1) = xk) (hXs : ∀ q ∈ X, ∀ v w w', q.2 v w → GrV g c S' V w w' → q.2 v w') (hS : useS = true → SOk S) (hfr : ∀ q ∈ fr, q.2.Has D w0.heap.size g (a0.tmps.getD q.1 undef) w0) (hr : Rd D0 w0 g p) (hp : p + n ≤ 100000)
    (hc0 : c < w0.heap.size) (hcD : c < D) (hDg : D ≤ g)
    (hex : ∀ i ∈ ex, ∀ o, i < n → l[i]? = some o → ∀ k a w, k < n → a.defers = a0.defers → (∀ s, isDst l.toArray n s = false → a.tmps.getD s undef = a0.tmps.getD s undef) →
      (∀ s, (o.after.any fun e => Region.binds .any e && decide (dstOf l.toArray e.on = some s)) = true → TX tys src X D w0.heap.size g a0 s (a.tmps.getD s undef) w) → GrV g c S' V w0 w → (∃ p', p' ≤ p + k ∧ Rd D0 w g p') →
      Oper.wp Try.prog o a w (PostV tys src X D D0 w0.heap.size g c p k S' V a0 o a w) Q)
    (htail : ∀ (f : Tmp → Value) (w : World), (∀ d, d ∈ ds → TX tys src X D w0.heap.size g a0 d (f d) w) → GrV g c S' V w0 w → (∀ i o, i < n → l.toArray[i]? = some o → o.dst = none → w.heap[c]? = some (.cells V S' (0, 0))) → (∃ p', p' ≤ p + n ∧ Rd D0 w g p') → wpList Try.prog l.toArray Q (l.drop n) (putL ds f a0) w) :
    (Code.region id l.toArray true).wp Try.prog Q a0 w0 := by
  simp only [checkXG, Bool.and_eq_true, decide_eq_true_eq] at hok
  obtain ⟨⟨h1, h2⟩, hds⟩ := hok
  have hcg : c ≠ g := by omega
  have hmemds : ∀ s, s ∈ ds ↔ ∃ j, j < n ∧ dstOf l.toArray j = some s := fun s => by
    rw [hds, List.mem_filterMap]
    exact ⟨fun ⟨j, hj, e⟩ => ⟨j, List.mem_range.1 hj, e⟩, fun ⟨j, hj, e⟩ => ⟨j, List.mem_range.2 hj, e⟩⟩
  refine region_typedG (G := GrV g c S' V) (T := fun d v w => TX tys src X D w0.heap.size g a0 d v w) (F := fun _ w => w.heap[c]? = some (.cells V S' (0, 0))) (W := fun k w => ∃ p', p' ≤ p + k ∧ Rd D0 w g p') GrV.rfl' GrV.tr (by kernel_rfl) l n size hsize h1
    (fun d v w w' hh hg => ⟨Ty.stableV hcD _ v w w' hh.1 hg, hh.2.1, fun q hq e => hXs q hq v w w' (hh.2.2 q hq e) hg⟩) (fun j w w' hF hg => hg.cell.elim (fun e => e.trans hF) (fun e => e)) ⟨p, Nat.le_refl _, hr⟩ ?_ ?_
  · have hall : ∀ (m : Nat) (r : List Oper), r = (l.take n).drop m → AllOps (fun i o => ∀ k a w, k < n → a.defers = a0.defers → (∀ s, (∀ j, j < n → dstOf l.toArray j ≠ some s) → a.tmps.getD s undef = a0.tmps.getD s undef) →
        (∀ s, (∃ e ∈ o.after, Region.binds .any e = true ∧ dstOf l.toArray e.on = some s) → TX tys src X D w0.heap.size g a0 s (a.tmps.getD s undef) w) → GrV g c S' V w0.drew w → (∃ p', p' ≤ p + k ∧ Rd D0 w g p') →
        Oper.wp Try.prog o a w (PostG (GrV g c S' V) (fun d v w => TX tys src X D w0.heap.size g a0 d v w) (fun _ w => w.heap[c]? = some (.cells V S' (0, 0))) (fun k w => ∃ p', p' ≤ p + k ∧ Rd D0 w g p') k i o a w) Q) m r := by
      intro m r
      induction r generalizing m with
      | nil => intro _; trivial
      | cons o r ih =>
        intro hi
        have hio : (l.take n)[m]? = some o := by
          have : ((l.take n).drop m)[0]? = some o := by rw [← hi]; rfl
          simpa using this
        have hin : m < n := by
          have := (List.getElem?_eq_some_iff.1 hio).1
          rw [List.length_take] at this; omega
        have hlo : l.toArray[m]? = some o := by rw [List.getElem?_take, if_pos hin] at hio; simpa using hio
        refine ⟨?_, ih (m + 1) ?_⟩
        · intro k a w hk hdef hfrm hdep hgr hW
          have hgr0 : GrV g c S' V w0 w := GrV.tr _ _ _ (GrV.drew w0) hgr
          have hx := List.all_eq_true.1 h2 m (List.mem_range.2 hin)
          simp only [xOk, Bool.or_eq_true, Bool.and_eq_true] at hx
          rcases hx with hx | ⟨⟨hc, hsr⟩, hxd⟩
          · have hmem : m ∈ ex := by rw [List.contains_eq_mem] at hx; exact of_decide_eq_true hx
            refine Oper.wp_mono ?_ (hex m hmem o hin (by simpa using hlo) k a w hk hdef (fun s hs => hfrm s fun j hj hjs => ?_) (fun s hs => ?_) hgr0 hW)
            · rintro a' w' ⟨q1, q2, q3⟩
              exact ⟨q1, q2, q3⟩
            · have : isDst l.toArray n s = true := List.any_eq_true.2 ⟨j, List.mem_range.2 hj, by simpa using hjs⟩
              rw [this] at hs; cases hs
            · obtain ⟨e, he, hb⟩ := Array.any_eq_true'.1 hs
              simp only [Bool.and_eq_true, decide_eq_true_eq] at hb
              exact hdep s ⟨e, he, hb.1, hb.2⟩
          cases hdo : o.dst with
          | none =>
            unfold opOk at hc
            rw [hlo] at hc
            simp [hdo] at hc
          | some d =>
          have hd : o.dst = some d := hdo
          have hdi : dstOf l.toArray m = some d := by simp only [dstOf, hlo]; exact hd
          rw [hdi] at hxd
          simp only [Bool.not_eq_true'] at hxd
          have hXn : ∀ v w, XHas X d v w := XHas.none hxk hxd
          unfold opOk at hc
          rw [hlo] at hc
          simp only [hd, Bool.and_eq_true, decide_eq_true_eq] at hc
          obtain ⟨⟨hty, hus⟩, hop⟩ := hc
          unfold srcOk at hsr
          rw [hlo] at hsr
          simp only [hd] at hsr
          have hcw : c < w.heap.size := Nat.lt_of_lt_of_le hc0 hgr0.size
          have henv : ∀ x ∈ opndsK (kindOf S o), (opndTy tys x).Has D w0.heap.size g (a.eval x) w := fun x hx => by
            have hxo := List.all_eq_true.1 hop x hx
            cases x with
            | tmp s =>
              simp only [opndOk, Bool.or_eq_true, Bool.and_eq_true, decide_eq_true_eq] at hxo
              rcases hxo with hx1 | ⟨hx1, hx2⟩
              · obtain ⟨e, he, hb⟩ := Array.any_eq_true'.1 hx1
                simp only [Bool.and_eq_true, decide_eq_true_eq] at hb
                exact (hdep s ⟨e, he, hb.1, hb.2⟩).1
              · have hnot : ∀ j, j < n → dstOf l.toArray j ≠ some s := fun j hj hjs => by
                  have : isDst l.toArray n s = true := List.any_eq_true.2 ⟨j, List.mem_range.2 hj, by simpa using hjs⟩
                  rw [this] at hx1; cases hx1
                show (tyAt tys s).Has D w0.heap.size g (a.tmps.getD s undef) w
                rw [hx2, hfrm s hnot]
                exact Ty.stableV hcD _ _ _ _ (tyAt_frame hfr s) hgr0
            | const v =>
              cases v with
              | int kd m =>
                cases kd <;> first | exact ⟨m, rfl, Int.le_refl _, Int.le_refl _⟩ | trivial
              | _ => trivial
            | global _ => trivial
            | func _ => trivial
          have hpost : ∀ a' w', (∃ v, a' = a.put (some d) v ∧ TX tys src X D w0.heap.size g a0 d v w' ∧ w.grownBy w' (some g) ∧ ∃ p', p' ≤ p + (k + 1) ∧ Rd D0 w' g p') →
              PostG (GrV g c S' V) (fun d v w => TX tys src X D w0.heap.size g a0 d v w) (fun _ w => w.heap[c]? = some (.cells V S' (0, 0))) (fun k w => ∃ p', p' ≤ p + k ∧ Rd D0 w g p') k m o a w a' w' := by
            rintro a' w' ⟨v, e1, e2, e3, e4⟩
            refine ⟨GrV.of e3 hcw hcg, e4, ?_⟩
            rw [hd]
            exact ⟨v, e1, e2⟩
          cases hsd : srcAt src d with
          | none =>
            have := kd_sound (D := D) (D0 := D0) (B := w0.heap.size) (Q := Q) (S := S) (l := tys) hd hty (fun hu => hS (by rw [hu] at hus; simpa using hus)) henv hW (by omega) hgr0.size hDg
            exact Oper.wp_mono (fun a' w' ⟨v, e1, e2, e3, e4⟩ => hpost a' w' ⟨v, e1, ⟨e2, (fun s hs => by rw [hsd] at hs; cases hs), hXn _ _⟩, e3, e4⟩) this
          | some s =>
            rw [hsd] at hsr
            simp only at hsr
            cases hkd : kindOf S o with
            | mv x =>
              rw [hkd] at hsr hty henv
              refine Oper.wp_mono hpost (mv_goes hkd ⟨a.eval x, by rw [hd], ⟨?_, fun s0 hs0 => ?_, hXn _ _⟩, grownBy_rfl _ _, let ⟨p', q1, q2⟩ := hW; ⟨p', by omega, q2⟩⟩)
              · have := henv x (by simp [opndsK])
                simp only [tyK, Option.some.injEq] at hty
                rw [← hty]; exact this
              · rw [hsd] at hs0
                injection hs0 with hs0
                subst hs0
                cases x with
                | tmp s' =>
                  simp only [Bool.or_eq_true, Bool.and_eq_true, decide_eq_true_eq, Bool.not_eq_true'] at hsr
                  rcases hsr with ⟨e1, e2⟩ | ⟨e1, e2⟩
                  · subst e1
                    exact hfrm s' (fun j hj hjs => by
                      have : isDst l.toArray n s' = true := List.any_eq_true.2 ⟨j, List.mem_range.2 hj, by simpa using hjs⟩
                      rw [this] at e2; cases e2)
                  · obtain ⟨e, he, hb⟩ := Array.any_eq_true'.1 e2
                    simp only [Bool.and_eq_true, decide_eq_true_eq] at hb
                    exact (hdep s' ⟨e, he, hb.1, hb.2⟩).2.1 _ e1
                | const v => cases hsr
                | global _ => cases hsr
                | func _ => cases hsr
            | _ => rw [hkd] at hsr; cases hsr
        · rw [← List.tail_drop, ← hi]; rfl
    exact hall 0 (l.take n) (by simp)
  · intro a w hsz hdef hfrm htyp hst hgr hW
    have hpe := putL_eq (ds := ds) (a0 := a0) (a := a) (by rw [hsz, hsize]) hdef (fun s hs => hfrm s (fun j hj hjs => hs ((hmemds s).2 ⟨j, hj, hjs⟩)))
    rw [← hpe]
    exact htail (fun d => a.tmps.getD d undef) w (fun d hd => by
      obtain ⟨j, hj, hjs⟩ := (hmemds d).1 hd
      exact htyp j d hj hjs) (GrV.tr _ _ _ (GrV.drew w0) hgr) (fun i o hi ho hd => hst i o hi ho hd) hW
end Go.Proofs.Ytalalapjanckdaa
