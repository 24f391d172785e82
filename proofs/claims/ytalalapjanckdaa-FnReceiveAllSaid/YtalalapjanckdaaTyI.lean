/- As 'region_checked', and besides: a slot that is copied, step by step, from a slot of the frame holds that slot's very value. -/
import Derived.Test.YtalalapjanckdaaTyU
namespace Go.Proofs.Ytalalapjanckdaa
open Go.RowKit
variable {D D0 B : Nat}
/-- Which slot of the frame a slot is a copy of. -/
def srcAt (src : List (Tmp × Tmp)) (d : Tmp) : Option Tmp := (src.find? fun p => p.1 == d).map (·.2)
def srcOk (ops : Array Oper) (n : Nat) (S : TypeId) (src : List (Tmp × Tmp)) (i : Nat) : Bool :=
  match ops[i]? with
  | some o => (match o.dst with
    | some d => (match srcAt src d with
      | none => true
      | some s => (match kindOf S o with
        | .mv (.tmp s') => (decide (s' = s) && !isDst ops n s') || (decide (srcAt src s' = some s) && o.after.any fun e => Region.binds .any e && decide (dstOf ops e.on = some s'))
        | _ => false))
    | none => false)
  | none => false
theorem mv_goes {Q : Exit → Act → World → Prop} {S : TypeId} {o : Oper} {x : Operand} {a : Act} {w : World} {K : Act → World → Prop} (h : kindOf S o = .mv x) (hK : K (a.put o.dst (a.eval x)) w) : Oper.wp Try.prog o a w K Q := by
  unfold Oper.wp
  have : (execOp a.eval o).run Try.prog w = .ok (.value (a.eval x)) w := by
    rcases kind_mv h with ho | ho <;> simp [execOp, ho, Sem.run_pure]
  rw [this]
  exact hK
theorem region_checked_id {id : Nat} {a0 : Act} {w0 : World} {Q : Exit → Act → World → Prop} (l : List Oper) (S : TypeId) (useS : Bool) (n size g p : Nat) (fr tys : List (Tmp × Ty)) (ds : List Tmp) (src : List (Tmp × Tmp)) (hsize : a0.tmps.size = size)
    (hok : checkAll l.toArray size n S useS fr tys ds = true) (hsrc : ((List.range n).all (srcOk l.toArray n S src)) = true) (hS : useS = true → SOk S) (hfr : ∀ q ∈ fr, q.2.Has D w0.heap.size g (a0.tmps.getD q.1 undef) w0) (hr : Rd D w0 g p) (hp : p + n ≤ 100000)
    (htail : ∀ (f : Tmp → Value) (w : World), (∀ d, d ∈ ds → (tyAt tys d).Has D w0.heap.size g (f d) w ∧ ∀ s, srcAt src d = some s → f d = a0.tmps.getD s undef) → w0.grownBy w (some g) → (∃ p', p' ≤ p + n ∧ Rd D w g p') → wpList Try.prog l.toArray Q (l.drop n) (putL ds f a0) w) :
    (Code.region id l.toArray true).wp Try.prog Q a0 w0 := by
  simp only [checkAll, Bool.and_eq_true, decide_eq_true_eq] at hok
  obtain ⟨⟨h1, h2⟩, hds⟩ := hok
  have hmemds : ∀ s, s ∈ ds ↔ ∃ j, j < n ∧ dstOf l.toArray j = some s := fun s => by
    rw [hds, List.mem_filterMap]
    exact ⟨fun ⟨j, hj, e⟩ => ⟨j, List.mem_range.1 hj, e⟩, fun ⟨j, hj, e⟩ => ⟨j, List.mem_range.2 hj, e⟩⟩
  refine region_typed (by kernel_rfl) l n size g hsize h1 (fun d v w => (tyAt tys d).Has D w0.heap.size g v w ∧ ∀ s, srcAt src d = some s → v = a0.tmps.getD s undef) (fun k w => ∃ p', p' ≤ p + k ∧ Rd D w g p') (fun d v w w' hh hg => ⟨Ty.stable _ v w w' hh.1 hg, hh.2⟩) ⟨p, Nat.le_refl _, hr⟩ ?_ ?_
  · have hall : ∀ (m : Nat) (r : List Oper) (i : Nat), r = (l.take n).drop i → AllOps (fun _ o => ∀ d, o.dst = some d → ∀ k a w, k < n → a.defers = a0.defers → (∀ s, (∀ j, j < n → dstOf l.toArray j ≠ some s) → a.tmps.getD s undef = a0.tmps.getD s undef) →
        (∀ s, (∃ e ∈ o.after, Region.binds .any e = true ∧ dstOf l.toArray e.on = some s) → (tyAt tys s).Has D w0.heap.size g (a.tmps.getD s undef) w ∧ ∀ t, srcAt src s = some t → a.tmps.getD s undef = a0.tmps.getD t undef) → w0.drew.grownBy w (some g) → (∃ p', p' ≤ p + k ∧ Rd D w g p') →
        Oper.wp Try.prog o a w (fun a' w' => ∃ v, a' = a.put (some d) v ∧ ((tyAt tys d).Has D w0.heap.size g v w' ∧ ∀ s, srcAt src d = some s → v = a0.tmps.getD s undef) ∧ w.grownBy w' (some g) ∧ ∃ p', p' ≤ p + (k + 1) ∧ Rd D w' g p') Q) m r := by
      intro m r
      induction r generalizing m with
      | nil => intro i _; trivial
      | cons o r ih =>
        intro i hi
        have hio : (l.take n)[i]? = some o := by
          have : ((l.take n).drop i)[0]? = some o := by rw [← hi]; rfl
          simpa using this
        have hin : i < n := by
          have := (List.getElem?_eq_some_iff.1 hio).1
          rw [List.length_take] at this; omega
        have hlo : l.toArray[i]? = some o := by rw [List.getElem?_take, if_pos hin] at hio; simpa using hio
        refine ⟨?_, ih (m + 1) (i + 1) ?_⟩
        · intro d hd k a w hk hdef hfrm hdep hgr hW
          have hc := List.all_eq_true.1 h2 i (List.mem_range.2 hin)
          unfold opOk at hc
          rw [hlo] at hc
          simp only [hd, Bool.and_eq_true, decide_eq_true_eq] at hc
          obtain ⟨⟨hty, hus⟩, hop⟩ := hc
          have hsr := List.all_eq_true.1 hsrc i (List.mem_range.2 hin)
          unfold srcOk at hsr
          rw [hlo] at hsr
          simp only [hd] at hsr
          have henv : ∀ x ∈ opndsK (kindOf S o), (opndTy tys x).Has D w0.heap.size g (a.eval x) w := fun x hx => by
            have hxo := List.all_eq_true.1 hop x hx
            cases x with
            | tmp s =>
              simp only [opndOk, Bool.or_eq_true, Bool.and_eq_true, decide_eq_true_eq] at hxo
              rcases hxo with hx1 | ⟨hx1, hx2⟩
              · obtain ⟨e, he, hb⟩ := Array.any_eq_true'.1 hx1
                simp only [Bool.and_eq_true, decide_eq_true_eq] at hb
                exact (hdep s ⟨e, he, hb.1, hb.2⟩).1
              · have hnot : ∀ j, j < n → dstOf l.toArray j ≠ some s := fun j hj hjs => by
                  have : isDst l.toArray n s = true := List.any_eq_true.2 ⟨j, List.mem_range.2 hj, by simpa using hjs⟩
                  rw [this] at hx1; cases hx1
                show (tyAt tys s).Has D w0.heap.size g (a.tmps.getD s undef) w
                rw [hx2, hfrm s hnot]
                exact Ty.stable _ _ _ _ (tyAt_frame hfr s) (grownBy_tr (⟨rfl, rfl, rfl, Nat.le_refl _, fun _ _ _ => rfl⟩ : w0.grownBy w0.drew (some g)) hgr)
            | const v =>
              cases v with
              | int kd m =>
                cases kd <;> first | exact ⟨m, rfl, Int.le_refl _, Int.le_refl _⟩ | trivial
              | _ => trivial
            | global _ => trivial
            | func _ => trivial
          cases hsd : srcAt src d with
          | none =>
            have := kd_sound (Q := Q) (S := S) (l := tys) hd hty (fun hu => hS (by rw [hu] at hus; simpa using hus)) henv hW (by omega) hgr.size hr.1
            refine Oper.wp_mono (fun a' w' ⟨v, e1, e2, e3, e4⟩ => ⟨v, e1, ⟨e2, fun s hs => by cases hs⟩, e3, e4⟩) this
          | some s =>
            rw [hsd] at hsr
            simp only at hsr
            cases hkd : kindOf S o with
            | mv x =>
              rw [hkd] at hsr hty henv
              refine mv_goes hkd ⟨a.eval x, by rw [hd], ⟨?_, fun s0 hs0 => ?_⟩, grownBy_rfl _ _, let ⟨p', q1, q2⟩ := hW; ⟨p', by omega, q2⟩⟩
              · have := henv x (by simp [opndsK])
                simp only [tyK, Option.some.injEq] at hty
                rw [← hty]; exact this
              · injection hs0 with hs0
                subst hs0
                cases x with
                | tmp s' =>
                  simp only [Bool.or_eq_true, Bool.and_eq_true, decide_eq_true_eq, Bool.not_eq_true'] at hsr
                  rcases hsr with ⟨e1, e2⟩ | ⟨e1, e2⟩
                  · subst e1
                    exact hfrm s' (fun j hj hjs => by
                      have : isDst l.toArray n s' = true := List.any_eq_true.2 ⟨j, List.mem_range.2 hj, by simpa using hjs⟩
                      rw [this] at e2; cases e2)
                  · obtain ⟨e, he, hb⟩ := Array.any_eq_true'.1 e2
                    simp only [Bool.and_eq_true, decide_eq_true_eq] at hb
                    exact (hdep s' ⟨e, he, hb.1, hb.2⟩).2 _ e1
                | const v => cases hsr
                | global _ => cases hsr
                | func _ => cases hsr
            | _ => rw [hkd] at hsr; cases hsr
        · rw [← List.tail_drop, ← hi]; rfl
    exact hall 0 (l.take n) 0 (by simp)
  · intro a w hsz hdef hfrm htyp hgr hW
    have hpe := putL_eq (ds := ds) (a0 := a0) (a := a) (by rw [hsz, hsize]) hdef (fun s hs => hfrm s (fun j hj hjs => hs ((hmemds s).2 ⟨j, hj, hjs⟩)))
    rw [← hpe]
    exact htail (fun d => a.tmps.getD d undef) w (fun d hd => by
      obtain ⟨j, hj, hjs⟩ := (hmemds d).1 hd
      exact htyp j d hj hjs) (grownBy_tr (⟨rfl, rfl, rfl, Nat.le_refl _, fun _ _ _ => rfl⟩ : w0.grownBy w0.drew (some g)) hgr) hW
end Go.Proofs.Ytalalapjanckdaa
