/- As 'region_checked_id', and besides: some operations ('ex') that the checker does not know are shown by hand; what they leave is said by 'X', slot by slot. -/
import Derived.Test.YtalalapjanckdaaTyI
namespace Go.Proofs.Ytalalapjanckdaa
open Go.RowKit
variable {D D0 B : Nat}
/-- What is said by hand of a slot. -/
def XHas (X : List (Tmp × (Value → World → Prop))) (d : Tmp) (v : Value) (w : World) : Prop := ∀ q ∈ X, q.1 = d → q.2 v w
theorem XHas.none {X : List (Tmp × (Value → World → Prop))} {xk : List Tmp} (hx : X.map (·.1) = xk) {d : Tmp} (h : xk.contains d = false) (v : Value) (w : World) : XHas X d v w := fun q hq e => by
  have : d ∈ xk := by rw [← hx, ← e]; exact List.mem_map_of_mem hq
  rw [List.contains_eq_mem, decide_eq_true this] at h; cases h
def xOk (ops : Array Oper) (n : Nat) (S : TypeId) (useS : Bool) (fr tys : List (Tmp × Ty)) (src : List (Tmp × Tmp)) (xk : List Tmp) (ex : List Nat) (i : Nat) : Bool :=
  ex.contains i || (opOk ops n S useS fr tys i && srcOk ops n S src i && (match dstOf ops i with | some d => !xk.contains d | none => false))
def checkX (ops : Array Oper) (size n : Nat) (S : TypeId) (useS : Bool) (fr tys : List (Tmp × Ty)) (ds : List Tmp) (src : List (Tmp × Tmp)) (xk : List Tmp) (ex : List Nat) : Bool :=
  regOk ops size n && (List.range n).all (xOk ops n S useS fr tys src xk ex) && decide (ds = (List.range n).filterMap (dstOf ops))
/-- What every slot holds. -/
def TX (tys : List (Tmp × Ty)) (src : List (Tmp × Tmp)) (X : List (Tmp × (Value → World → Prop))) (D B g : Nat) (a0 : Act) (d : Tmp) (v : Value) (w : World) : Prop :=
  (tyAt tys d).Has D B g v w ∧ (∀ s, srcAt src d = some s → v = a0.tmps.getD s undef) ∧ XHas X d v w
theorem region_checked_x {id : Nat} {a0 : Act} {w0 : World} {Q : Exit → Act → World → Prop} (l : List Oper) (S : TypeId) (useS : Bool) (n size g p : Nat) (fr tys : List (Tmp × Ty)) (ds : List Tmp) (src : List (Tmp × Tmp)) (X : List (Tmp × (Value → World → Prop))) (xk : List Tmp) (ex : List Nat) (hsize : a0.tmps.size = size)
    (hok : checkX l.toArray size n S useS fr tys ds src xk ex = true) (hxk : X.map (·.1) = xk) (hXs : ∀ q ∈ X, ∀ v w w', q.2 v w → w.grownBy w' (some g) → q.2 v w') (hS : useS = true → SOk S) (hfr : ∀ q ∈ fr, q.2.Has D w0.heap.size g (a0.tmps.getD q.1 undef) w0) (hr : Rd D w0 g p) (hp : p + n ≤ 100000)
    (hex : ∀ i ∈ ex, ∀ o d, i < n → l[i]? = some o → o.dst = some d → ∀ k a w, k < n → a.defers = a0.defers → (∀ s, isDst l.toArray n s = false → a.tmps.getD s undef = a0.tmps.getD s undef) →
      (∀ s, (o.after.any fun e => Region.binds .any e && decide (dstOf l.toArray e.on = some s)) = true → TX tys src X D w0.heap.size g a0 s (a.tmps.getD s undef) w) → w0.grownBy w (some g) → (∃ p', p' ≤ p + k ∧ Rd D w g p') →
      Oper.wp Try.prog o a w (fun a' w' => ∃ v, a' = a.put (some d) v ∧ TX tys src X D w0.heap.size g a0 d v w' ∧ w.grownBy w' (some g) ∧ ∃ p', p' ≤ p + (k + 1) ∧ Rd D w' g p') Q)
    (htail : ∀ (f : Tmp → Value) (w : World), (∀ d, d ∈ ds → TX tys src X D w0.heap.size g a0 d (f d) w) → w0.grownBy w (some g) → (∃ p', p' ≤ p + n ∧ Rd D w g p') → wpList Try.prog l.toArray Q (l.drop n) (putL ds f a0) w) :
    (Code.region id l.toArray true).wp Try.prog Q a0 w0 := by
  simp only [checkX, Bool.and_eq_true, decide_eq_true_eq] at hok
  obtain ⟨⟨h1, h2⟩, hds⟩ := hok
  have hmemds : ∀ s, s ∈ ds ↔ ∃ j, j < n ∧ dstOf l.toArray j = some s := fun s => by
    rw [hds, List.mem_filterMap]
    exact ⟨fun ⟨j, hj, e⟩ => ⟨j, List.mem_range.1 hj, e⟩, fun ⟨j, hj, e⟩ => ⟨j, List.mem_range.2 hj, e⟩⟩
  refine region_typed (by kernel_rfl) l n size g hsize h1 (fun d v w => TX tys src X D w0.heap.size g a0 d v w) (fun k w => ∃ p', p' ≤ p + k ∧ Rd D w g p') (fun d v w w' hh hg => ⟨Ty.stable _ v w w' hh.1 hg, hh.2.1, fun q hq e => hXs q hq v w w' (hh.2.2 q hq e) hg⟩) ⟨p, Nat.le_refl _, hr⟩ ?_ ?_
  · have hall : ∀ (m : Nat) (r : List Oper) (i : Nat), r = (l.take n).drop i → AllOps (fun _ o => ∀ d, o.dst = some d → ∀ k a w, k < n → a.defers = a0.defers → (∀ s, (∀ j, j < n → dstOf l.toArray j ≠ some s) → a.tmps.getD s undef = a0.tmps.getD s undef) →
        (∀ s, (∃ e ∈ o.after, Region.binds .any e = true ∧ dstOf l.toArray e.on = some s) → TX tys src X D w0.heap.size g a0 s (a.tmps.getD s undef) w) → w0.drew.grownBy w (some g) → (∃ p', p' ≤ p + k ∧ Rd D w g p') →
        Oper.wp Try.prog o a w (fun a' w' => ∃ v, a' = a.put (some d) v ∧ TX tys src X D w0.heap.size g a0 d v w' ∧ w.grownBy w' (some g) ∧ ∃ p', p' ≤ p + (k + 1) ∧ Rd D w' g p') Q) m r := by
      intro m r
      induction r generalizing m with
      | nil => intro i _; trivial
      | cons o r ih =>
        intro i hi
        have hio : (l.take n)[i]? = some o := by
          have : ((l.take n).drop i)[0]? = some o := by rw [← hi]; rfl
          simpa using this
        have hin : i < n := by
          have := (List.getElem?_eq_some_iff.1 hio).1
          rw [List.length_take] at this; omega
        have hlo : l.toArray[i]? = some o := by rw [List.getElem?_take, if_pos hin] at hio; simpa using hio
        refine ⟨?_, ih (m + 1) (i + 1) ?_⟩
        · intro d hd k a w hk hdef hfrm hdep hgr hW
          have hx := List.all_eq_true.1 h2 i (List.mem_range.2 hin)
          simp only [xOk, Bool.or_eq_true, Bool.and_eq_true] at hx
          rcases hx with hx | ⟨⟨hc, hsr⟩, hxd⟩
          · have hmem : i ∈ ex := by rw [List.contains_eq_mem] at hx; exact of_decide_eq_true hx
            refine hex i hmem o d hin (by simpa using hlo) hd k a w hk hdef (fun s hs => hfrm s fun j hj hjs => ?_) (fun s hs => ?_) (grownBy_tr (⟨rfl, rfl, rfl, Nat.le_refl _, fun _ _ _ => rfl⟩ : w0.grownBy w0.drew (some g)) hgr) hW
            · have : isDst l.toArray n s = true := List.any_eq_true.2 ⟨j, List.mem_range.2 hj, by simpa using hjs⟩
              rw [this] at hs; cases hs
            · obtain ⟨e, he, hb⟩ := Array.any_eq_true'.1 hs
              simp only [Bool.and_eq_true, decide_eq_true_eq] at hb
              exact hdep s ⟨e, he, hb.1, hb.2⟩
          have hdi : dstOf l.toArray i = some d := by simp only [dstOf, hlo]; exact hd
          rw [hdi] at hxd
          simp only [Bool.not_eq_true'] at hxd
          have hXn : ∀ v w, XHas X d v w := XHas.none hxk hxd
          unfold opOk at hc
          rw [hlo] at hc
          simp only [hd, Bool.and_eq_true, decide_eq_true_eq] at hc
          obtain ⟨⟨hty, hus⟩, hop⟩ := hc
          unfold srcOk at hsr
          rw [hlo] at hsr
          simp only [hd] at hsr
          have henv : ∀ x ∈ opndsK (kindOf S o), (opndTy tys x).Has D w0.heap.size g (a.eval x) w := fun x hx => by
            have hxo := List.all_eq_true.1 hop x hx
            cases x with
            | tmp s =>
              simp only [opndOk, Bool.or_eq_true, Bool.and_eq_true, decide_eq_true_eq] at hxo
              rcases hxo with hx1 | ⟨hx1, hx2⟩
              · obtain ⟨e, he, hb⟩ := Array.any_eq_true'.1 hx1
                simp only [Bool.and_eq_true, decide_eq_true_eq] at hb
                exact (hdep s ⟨e, he, hb.1, hb.2⟩).1
              · have hnot : ∀ j, j < n → dstOf l.toArray j ≠ some s := fun j hj hjs => by
                  have : isDst l.toArray n s = true := List.any_eq_true.2 ⟨j, List.mem_range.2 hj, by simpa using hjs⟩
                  rw [this] at hx1; cases hx1
                show (tyAt tys s).Has D w0.heap.size g (a.tmps.getD s undef) w
                rw [hx2, hfrm s hnot]
                exact Ty.stable _ _ _ _ (tyAt_frame hfr s) (grownBy_tr (⟨rfl, rfl, rfl, Nat.le_refl _, fun _ _ _ => rfl⟩ : w0.grownBy w0.drew (some g)) hgr)
            | const v =>
              cases v with
              | int kd m =>
                cases kd <;> first | exact ⟨m, rfl, Int.le_refl _, Int.le_refl _⟩ | trivial
              | _ => trivial
            | global _ => trivial
            | func _ => trivial
          cases hsd : srcAt src d with
          | none =>
            have := kd_sound (Q := Q) (S := S) (l := tys) hd hty (fun hu => hS (by rw [hu] at hus; simpa using hus)) henv hW (by omega) hgr.size hr.1
            refine Oper.wp_mono (fun a' w' ⟨v, e1, e2, e3, e4⟩ => ⟨v, e1, ⟨e2, (fun s hs => by rw [hsd] at hs; cases hs), hXn _ _⟩, e3, e4⟩) this
          | some s =>
            rw [hsd] at hsr
            simp only at hsr
            cases hkd : kindOf S o with
            | mv x =>
              rw [hkd] at hsr hty henv
              refine mv_goes hkd ⟨a.eval x, by rw [hd], ⟨?_, fun s0 hs0 => ?_, hXn _ _⟩, grownBy_rfl _ _, let ⟨p', q1, q2⟩ := hW; ⟨p', by omega, q2⟩⟩
              · have := henv x (by simp [opndsK])
                simp only [tyK, Option.some.injEq] at hty
                rw [← hty]; exact this
              · rw [hsd] at hs0
                injection hs0 with hs0
                subst hs0
                cases x with
                | tmp s' =>
                  simp only [Bool.or_eq_true, Bool.and_eq_true, decide_eq_true_eq, Bool.not_eq_true'] at hsr
                  rcases hsr with ⟨e1, e2⟩ | ⟨e1, e2⟩
                  · subst e1
                    exact hfrm s' (fun j hj hjs => by
                      have : isDst l.toArray n s' = true := List.any_eq_true.2 ⟨j, List.mem_range.2 hj, by simpa using hjs⟩
                      rw [this] at e2; cases e2)
                  · obtain ⟨e, he, hb⟩ := Array.any_eq_true'.1 e2
                    simp only [Bool.and_eq_true, decide_eq_true_eq] at hb
                    exact (hdep s' ⟨e, he, hb.1, hb.2⟩).2.1 _ e1
                | const v => cases hsr
                | global _ => cases hsr
                | func _ => cases hsr
            | _ => rw [hkd] at hsr; cases hsr
        · rw [← List.tail_drop, ← hi]; rfl
    exact hall 0 (l.take n) 0 (by simp)
  · intro a w hsz hdef hfrm htyp hgr hW
    have hpe := putL_eq (ds := ds) (a0 := a0) (a := a) (by rw [hsz, hsize]) hdef (fun s hs => hfrm s (fun j hj hjs => hs ((hmemds s).2 ⟨j, hj, hjs⟩)))
    rw [← hpe]
    exact htail (fun d => a.tmps.getD d undef) w (fun d hd => by
      obtain ⟨j, hj, hjs⟩ := (hmemds d).1 hd
      exact htyp j d hj hjs) (grownBy_tr (⟨rfl, rfl, rfl, Nat.le_refl _, fun _ _ _ => rfl⟩ : w0.grownBy w0.drew (some g)) hgr) hW
end Go.Proofs.Ytalalapjanckdaa
