/- A drawn region that the checker accepts: whatever the order, each slot of its head holds a value of its type, and the tail goes on from there. -/
import Derived.Test.YtalalapjanckdaaTyT
namespace Go.Proofs.Ytalalapjanckdaa
open Go.RowKit
variable {D B : Nat}
def isDst (ops : Array Oper) (n : Nat) (s : Tmp) : Bool := (List.range n).any fun j => decide (dstOf ops j = some s)
def opndOk (ops : Array Oper) (n : Nat) (fr tys : List (Tmp × Ty)) (o : Oper) : Operand → Bool
  | .tmp s => (o.after.any fun e => Region.binds .any e && decide (dstOf ops e.on = some s)) || (!isDst ops n s && decide (tyAt tys s = tyAt fr s))
  | _ => true
def opOk (ops : Array Oper) (n : Nat) (S : TypeId) (useS : Bool) (fr tys : List (Tmp × Ty)) (i : Nat) : Bool :=
  match ops[i]? with
  | some o => (match o.dst with | some d => decide (tyK S tys (kindOf S o) = some (tyAt tys d)) | none => false) && (!usesS (kindOf S o) || useS) && (opndsK (kindOf S o)).all (opndOk ops n fr tys o)
  | none => false
def checkAll (ops : Array Oper) (size n : Nat) (S : TypeId) (useS : Bool) (fr tys : List (Tmp × Ty)) (ds : List Tmp) : Bool :=
  regOk ops size n && (List.range n).all (opOk ops n S useS fr tys) && decide (ds = (List.range n).filterMap (dstOf ops))
def putL : List Tmp → (Tmp → Value) → Act → Act
  | [], _, a => a
  | d :: r, f, a => putL r f (a.put (some d) (f d))
theorem putL_size : ∀ (ds : List Tmp) (f : Tmp → Value) (a : Act), (putL ds f a).tmps.size = a.tmps.size ∧ (putL ds f a).defers = a.defers
  | [], _, _ => ⟨rfl, rfl⟩
  | d :: r, f, a => by
    obtain ⟨h1, h2⟩ := putL_size r f (a.put (some d) (f d))
    exact ⟨by rw [putL, h1]; simp [Act.put], by rw [putL, h2]; rfl⟩
theorem putL_get : ∀ (ds : List Tmp) (f : Tmp → Value) (a : Act) (s : Tmp), s < a.tmps.size → (putL ds f a).tmps.getD s undef = if s ∈ ds then f s else a.tmps.getD s undef
  | [], _, _, _, _ => by simp [putL]
  | d :: r, f, a, s, hs => by
    rw [putL, putL_get r f (a.put (some d) (f d)) s (by simpa [Act.put] using hs)]
    by_cases hr : s ∈ r
    · simp [hr]
    · rw [if_neg hr]
      by_cases hsd : s = d
      · subst hsd
        rw [getD_put_same hs, if_pos (by simp)]
      · rw [getD_put hsd, if_neg (by simp [hsd, hr])]
theorem getD_in_lt {A : Array Value} {i : Nat} (h : i < A.size) : A.getD i undef = A[i] := by
  rw [Array.getD_eq_getD_getElem?, Array.getElem?_eq_getElem h]; rfl
theorem putL_eq {ds : List Tmp} {a0 a : Act} (hsz : a.tmps.size = a0.tmps.size) (hd : a.defers = a0.defers) (hfr : ∀ s, s ∉ ds → a.tmps.getD s undef = a0.tmps.getD s undef) :
    putL ds (fun d => a.tmps.getD d undef) a0 = a := by
  obtain ⟨h1, h2⟩ := putL_size ds (fun d => a.tmps.getD d undef) a0
  have ht : (putL ds (fun d => a.tmps.getD d undef) a0).tmps = a.tmps := by
    apply Array.ext
    · rw [h1, hsz]
    · intro i hi1 hi2
      have hg := putL_get ds (fun d => a.tmps.getD d undef) a0 i (by rw [← hsz]; exact hi2)
      have e1 := getD_in_lt hi1
      have e2 := getD_in_lt hi2
      rw [← e1, ← e2, hg]
      by_cases hm : i ∈ ds
      · rw [if_pos hm]
      · rw [if_neg hm, hfr i hm]
  generalize putL ds (fun d => a.tmps.getD d undef) a0 = b at *
  cases b
  cases a
  simp only at ht h2 hd
  rw [ht, h2, hd]
theorem tyAt_frame {g : Nat} {fr : List (Tmp × Ty)} {a0 : Act} {w : World} (h : ∀ q ∈ fr, q.2.Has D B g (a0.tmps.getD q.1 undef) w) (s : Tmp) : (tyAt fr s).Has D B g (a0.tmps.getD s undef) w := by
  unfold tyAt
  cases hf : fr.find? fun p => p.1 == s with
  | none => trivial
  | some q =>
    have h1 := List.find?_some hf
    have h2 := List.mem_of_find?_eq_some hf
    have : q.1 = s := by simpa using h1
    have := h q h2
    rw [← ‹q.1 = s›]
    exact this
theorem region_checked {id : Nat} {a0 : Act} {w0 : World} {Q : Exit → Act → World → Prop} (l : List Oper) (S : TypeId) (useS : Bool) (n size g p : Nat) (fr tys : List (Tmp × Ty)) (ds : List Tmp) (hsize : a0.tmps.size = size)
    (hok : checkAll l.toArray size n S useS fr tys ds = true) (hS : useS = true → SOk S) (hfr : ∀ q ∈ fr, q.2.Has D w0.heap.size g (a0.tmps.getD q.1 undef) w0) (hr : Rd D w0 g p) (hp : p + n ≤ 100000)
    (htail : ∀ (f : Tmp → Value) (w : World), (∀ d, d ∈ ds → (tyAt tys d).Has D w0.heap.size g (f d) w) → w0.grownBy w (some g) → (∃ p', p' ≤ p + n ∧ Rd D w g p') → wpList Try.prog l.toArray Q (l.drop n) (putL ds f a0) w) :
    (Code.region id l.toArray true).wp Try.prog Q a0 w0 := by
  simp only [checkAll, Bool.and_eq_true, decide_eq_true_eq] at hok
  obtain ⟨⟨h1, h2⟩, hds⟩ := hok
  have hmemds : ∀ s, s ∈ ds ↔ ∃ j, j < n ∧ dstOf l.toArray j = some s := fun s => by
    rw [hds, List.mem_filterMap]
    exact ⟨fun ⟨j, hj, e⟩ => ⟨j, List.mem_range.1 hj, e⟩, fun ⟨j, hj, e⟩ => ⟨j, List.mem_range.2 hj, e⟩⟩
  refine region_typed (by kernel_rfl) l n size g hsize h1 (fun d => (tyAt tys d).Has D w0.heap.size g) (fun k w => ∃ p', p' ≤ p + k ∧ Rd D w g p') (fun d v w w' hh hg => Ty.stable _ v w w' hh hg) ⟨p, Nat.le_refl _, hr⟩ ?_ ?_
  · have hall : ∀ (m : Nat) (r : List Oper) (i : Nat), r = (l.take n).drop i → AllOps (fun _ o => ∀ d, o.dst = some d → ∀ k a w, k < n → a.defers = a0.defers → (∀ s, (∀ j, j < n → dstOf l.toArray j ≠ some s) → a.tmps.getD s undef = a0.tmps.getD s undef) →
        (∀ s, (∃ e ∈ o.after, Region.binds .any e = true ∧ dstOf l.toArray e.on = some s) → (tyAt tys s).Has D w0.heap.size g (a.tmps.getD s undef) w) → w0.drew.grownBy w (some g) → (∃ p', p' ≤ p + k ∧ Rd D w g p') →
        Oper.wp Try.prog o a w (fun a' w' => ∃ v, a' = a.put (some d) v ∧ (tyAt tys d).Has D w0.heap.size g v w' ∧ w.grownBy w' (some g) ∧ ∃ p', p' ≤ p + (k + 1) ∧ Rd D w' g p') Q) m r := by
      intro m r
      induction r generalizing m with
      | nil => intro i _; trivial
      | cons o r ih =>
        intro i hi
        have hio : (l.take n)[i]? = some o := by
          have : ((l.take n).drop i)[0]? = some o := by rw [← hi]; rfl
          simpa using this
        have hin : i < n := by
          have := (List.getElem?_eq_some_iff.1 hio).1
          rw [List.length_take] at this; omega
        have hlo : l.toArray[i]? = some o := by rw [List.getElem?_take, if_pos hin] at hio; simpa using hio
        refine ⟨?_, ih (m + 1) (i + 1) ?_⟩
        · intro d hd k a w hk hdef hfrm hdep hgr hW
          have hc := List.all_eq_true.1 h2 i (List.mem_range.2 hin)
          unfold opOk at hc
          rw [hlo] at hc
          simp only [hd, Bool.and_eq_true, decide_eq_true_eq] at hc
          obtain ⟨⟨hty, hus⟩, hop⟩ := hc
          refine kd_sound (S := S) (l := tys) hd hty (fun hu => hS (by rw [hu] at hus; simpa using hus)) (fun x hx => ?_) hW (by omega) hgr.size hr.1
          have hxo := List.all_eq_true.1 hop x hx
          cases x with
          | tmp s =>
            simp only [opndOk, Bool.or_eq_true, Bool.and_eq_true, decide_eq_true_eq] at hxo
            rcases hxo with hx1 | ⟨hx1, hx2⟩
            · obtain ⟨e, he, hb⟩ := Array.any_eq_true'.1 hx1
              simp only [Bool.and_eq_true, decide_eq_true_eq] at hb
              exact hdep s ⟨e, he, hb.1, hb.2⟩
            · have hnot : ∀ j, j < n → dstOf l.toArray j ≠ some s := fun j hj hjs => by
                have : isDst l.toArray n s = true := List.any_eq_true.2 ⟨j, List.mem_range.2 hj, by simpa using hjs⟩
                rw [this] at hx1; cases hx1
              show (tyAt tys s).Has D w0.heap.size g (a.tmps.getD s undef) w
              rw [hx2, hfrm s hnot]
              exact Ty.stable _ _ _ _ (tyAt_frame hfr s) (grownBy_tr (⟨rfl, rfl, rfl, Nat.le_refl _, fun _ _ _ => rfl⟩ : w0.grownBy w0.drew (some g)) hgr)
          | const v =>
            cases v with
            | int kd m =>
              cases kd <;> first | exact ⟨m, rfl, Int.le_refl _, Int.le_refl _⟩ | trivial
            | _ => trivial
          | global _ => trivial
          | func _ => trivial
        · rw [← List.tail_drop, ← hi]; rfl
    exact hall 0 (l.take n) 0 (by simp)
  · intro a w hsz hdef hfrm htyp hgr hW
    have hpe := putL_eq (ds := ds) (a0 := a0) (a := a) (by rw [hsz, hsize]) hdef (fun s hs => hfrm s (fun j hj hjs => hs ((hmemds s).2 ⟨j, hj, hjs⟩)))
    rw [← hpe]
    exact htail (fun d => a.tmps.getD d undef) w (fun d hd => by
      obtain ⟨j, hj, hjs⟩ := (hmemds d).1 hd
      exact htyp j d hj hjs) (grownBy_tr (⟨rfl, rfl, rfl, Nat.le_refl _, fun _ _ _ => rfl⟩ : w0.grownBy w0.drew (some g)) hgr) hW
theorem gb_set {w w' : World} {g b : Nat} (h : w.grownBy w' (some g)) (hb : w.heap.size ≤ b) (i : Nat) (u : Value) : w.grownBy (w'.setCell ⟨b, i, none⟩ u) (some g) :=
  ⟨h.os, h.tape, h.output, by simpa using h.size, fun k hk hr => (heap_setCell_other w' ⟨b, i, none⟩ k u (by simp only []; omega)).trans (h.block k hk hr)⟩
theorem gb_alloc {w w' : World} {r : Option Nat} (h : w.grownBy w' r) (o : Obj) : w.grownBy (w'.alloc o) r := grownBy_tr h (grownBy_alloc _ _ _)
theorem gb_none {w w' w'' : World} {r : Option Nat} (h : w.grownBy w' r) (k : w'.grownBy w'' none) : w.grownBy w'' r :=
  grownBy_tr h ⟨k.os, k.tape, k.output, k.size, fun i hi _ => k.block i hi (by simp)⟩
theorem Box.by {w w' : World} {g b T : Nat} {vs : List Value} (h : Box w b T vs) (hg : w.grownBy w' (some g)) (hb : b ≠ g) : Box w' b T vs := (hg.block b h.lt (fun e => hb (by simpa using e))).trans h
end Go.Proofs.Ytalalapjanckdaa
