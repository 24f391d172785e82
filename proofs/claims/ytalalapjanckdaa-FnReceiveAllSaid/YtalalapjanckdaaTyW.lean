/- A drawn region that stores a struct of two numbers into a cell of its own besides: each slot holds a value of its type, and the cell holds the struct. -/
import Derived.Test.YtalalapjanckdaaRegG
namespace Go.Proofs.Ytalalapjanckdaa
open Go.RowKit
variable {D D0 B : Nat}
/-- The world turns only at the reader and at the cell, and there a struct of small numbers is laid. -/
structure GrC (g c : Nat) (S : TypeId) (ps : List (Int × Int)) (w w' : World) : Prop where
  os : w'.os = w.os
  tape : w'.tape = w.tape
  output : w'.output = w.output
  size : w.heap.size ≤ w'.heap.size
  block : ∀ k, k < w.heap.size → k ≠ g → k ≠ c → w'.heap[k]? = w.heap[k]?
  cell : w'.heap[c]? = w.heap[c]? ∨ ∃ xs, Bds ps xs ∧ w'.heap[c]? = some (.cells (ints xs) S (0, 0))
theorem GrC.rfl' {g c : Nat} {S : TypeId} {ps : List (Int × Int)} (w : World) : GrC g c S ps w w := ⟨rfl, rfl, rfl, Nat.le_refl _, fun _ _ _ _ => rfl, .inl rfl⟩
theorem GrC.tr {g c : Nat} {S : TypeId} {ps : List (Int × Int)} (x y z : World) (h : GrC g c S ps x y) (k : GrC g c S ps y z) : GrC g c S ps x z :=
  ⟨k.os.trans h.os, k.tape.trans h.tape, k.output.trans h.output, Nat.le_trans h.size k.size, fun i hi h1 h2 => (k.block i (Nat.lt_of_lt_of_le hi h.size) h1 h2).trans (h.block i hi h1 h2), by
    rcases k.cell with e | e
    · rcases h.cell with e' | ⟨xs, h1, h2⟩
      · exact .inl (e.trans e')
      · exact .inr ⟨xs, h1, e.trans h2⟩
    · exact .inr e⟩
theorem GrC.of {g c : Nat} {S : TypeId} {ps : List (Int × Int)} {w w' : World} (h : w.grownBy w' (some g)) (hc : c < w.heap.size) (hcg : c ≠ g) : GrC g c S ps w w' :=
  ⟨h.os, h.tape, h.output, h.size, fun k hk h1 _ => h.block k hk (fun e => h1 (by simpa using e)), .inl (h.block c hc (fun e => hcg (by simpa using e)))⟩
theorem Ty.stableC {g c : Nat} {S : TypeId} {ps : List (Int × Int)} (hcD : c < D) (t : Ty) (v : Value) (w w' : World) (h : t.Has D B g v w) (hg : GrC g c S ps w w') : t.Has D B g v w' := by
  cases t with
  | int lo hi => exact h
  | bool => exact h
  | agg ps => exact h
  | rd => exact h
  | any => trivial
  | sl ps =>
    obtain ⟨b, xs, h1, h0, h2, h3, h4⟩ := h
    exact ⟨b, xs, h1, h0, h2, (hg.block b (lt_of_heap h3) h2 (by omega)).trans h3, h4⟩
  | pt lo hi =>
    obtain ⟨b, j, x, h1, h0, h2, h3, h4, h5⟩ := h
    exact ⟨b, j, x, h1, h0, h2, Nat.lt_of_lt_of_le h3 hg.size, (World.cell?_of_block (hg.block b h3 h2 (by omega))).trans h4, h5⟩
  | sb e ps =>
    obtain ⟨b, cs, h1, h0, h2, h3, h4⟩ := h
    exact ⟨b, cs, h1, h0, h2, (hg.block b (lt_of_heap h3) h2 (by omega)).trans h3, h4⟩
  | nb e ps =>
    obtain ⟨b, cs, h1, hB, h0, h2, h3, h4⟩ := h
    exact ⟨b, cs, h1, hB, h0, h2, (hg.block b (lt_of_heap h3) h2 (by omega)).trans h3, h4⟩
theorem GrC.below {g c L : Nat} {S : TypeId} {ps : List (Int × Int)} {w w' : World} (h : GrC g c S ps w w') (hL : L ≤ w.heap.size) (hg : L ≤ g) (hc : L ≤ c) : Below L w w' :=
  ⟨h.os, h.tape, h.output, h.size, fun k hk => h.block k (by omega) (by omega) (by omega)⟩
/-- A struct of two numbers is stored. -/
def SStore (S : TypeId) : Prop :=
  ∀ (o : Oper) (ρ : Operand → Value) (w : World) (x y : Operand) (b : Nat) (m n u v : Int), o.op = .store S x y → ρ x = .pointer (some ⟨b, 0, none⟩) → ρ y = .agg (ints [m, n]) → Box w b S [.int .i64 u, .int .i64 v] →
    (execOp ρ o).run Try.prog w = .ok .skip ((w.setCell ⟨b, 0, none⟩ (.int .i64 m)).setCell ⟨b, 1, none⟩ (.int .i64 n))
def stOk (ops : Array Oper) (n : Nat) (S : TypeId) (fr tys : List (Tmp × Ty)) (i : Nat) (cs : Tmp) (q : List (Int × Int)) : Bool :=
  match ops[i]? with
  | some o => o.dst.isNone && (match o.op with | .store t (.tmp x) y => decide (t = S) && decide (x = cs) && decide (opndTy tys y = .agg q) && opndOk ops n fr tys o y | _ => false)
  | none => false
def checkSt (ops : Array Oper) (size n : Nat) (S : TypeId) (fr tys : List (Tmp × Ty)) (ds : List Tmp) (i : Nat) (cs : Tmp) (q : List (Int × Int)) : Bool :=
  regOkG ops size n && decide (i < n) && !isDst ops n cs && (List.range n).all (fun j => if j = i then stOk ops n S fr tys i cs q else opOk ops n S true fr tys j) && decide (ds = (List.range n).filterMap (dstOf ops))
theorem Bds.two' {q : List (Int × Int)} (hq : q.length = 2) {xs : List Int} (h : Bds q xs) : ∃ m n, xs = [m, n] := by
  have hl := h.len
  rw [hq] at hl
  match xs, hl with
  | [m, n], _ => exact ⟨m, n, rfl⟩
theorem region_stored {id : Nat} {a0 : Act} {w0 : World} {Q : Exit → Act → World → Prop} (l : List Oper) (S : TypeId) (n size g p c : Nat) (fr tys : List (Tmp × Ty)) (ds : List Tmp) (i : Nat) (cs : Tmp) (q : List (Int × Int)) (hsize : a0.tmps.size = size)
    (hok : checkSt l.toArray size n S fr tys ds i cs q = true) (hq : q.length = 2) (hS : SOk S) (hSt : SStore S) (hfr : ∀ q ∈ fr, q.2.Has D w0.heap.size g (a0.tmps.getD q.1 undef) w0) (hr : Rd D0 w0 g p) (hp : p + n ≤ 100000)
    (hcs : a0.tmps.getD cs undef = .pointer (some ⟨c, 0, none⟩)) (u v : Int) (hc : Box w0 c S [.int .i64 u, .int .i64 v]) (hD0 : D0 ≤ c) (hcD : c < D) (hDg : D ≤ g)
    (htail : ∀ (f : Tmp → Value) (w : World), (∀ d, d ∈ ds → (tyAt tys d).Has D w0.heap.size g (f d) w) → GrC g c S q w0 w → (∃ xs, Bds q xs ∧ Box w c S (xs.map (Value.int .i64))) → (∃ p', p' ≤ p + n ∧ Rd D0 w g p') → wpList Try.prog l.toArray Q (l.drop n) (putL ds f a0) w) :
    (Code.region id l.toArray true).wp Try.prog Q a0 w0 := by
  simp only [checkSt, Bool.and_eq_true, decide_eq_true_eq] at hok
  obtain ⟨⟨⟨⟨h1, hin0⟩, hcsd⟩, h2⟩, hds⟩ := hok
  have hcs0 : ∀ j, j < n → dstOf l.toArray j ≠ some cs := fun j hj hjs => by
    have : isDst l.toArray n cs = true := List.any_eq_true.2 ⟨j, List.mem_range.2 hj, by simpa using hjs⟩
    rw [this] at hcsd; cases hcsd
  have hmemds : ∀ s, s ∈ ds ↔ ∃ j, j < n ∧ dstOf l.toArray j = some s := fun s => by
    rw [hds, List.mem_filterMap]
    exact ⟨fun ⟨j, hj, e⟩ => ⟨j, List.mem_range.1 hj, e⟩, fun ⟨j, hj, e⟩ => ⟨j, List.mem_range.2 hj, e⟩⟩
  have hcg : c ≠ g := by omega
  refine region_typedG (G := GrC g c S q) (T := fun d => (tyAt tys d).Has D w0.heap.size g) (F := fun j w => j = i → ∃ xs, Bds q xs ∧ Box w c S (xs.map (Value.int .i64)))
    (W := fun k w => (∃ p', p' ≤ p + k ∧ Rd D0 w g p') ∧ ∃ u v : Int, Box w c S [.int .i64 u, .int .i64 v]) GrC.rfl' GrC.tr (by kernel_rfl) l n size hsize h1 (fun d v w w' hh hg => Ty.stableC hcD _ v w w' hh hg) (fun j w w' hF hg hj => ?_) ⟨⟨p, Nat.le_refl _, hr⟩, u, v, hc⟩ ?_ ?_
  · obtain ⟨xs, h1, h2⟩ := hF hj
    rcases hg.cell with e | ⟨ys, e1, e2⟩
    · exact ⟨xs, h1, e.trans h2⟩
    · exact ⟨ys, e1, e2⟩
  · have hall : ∀ (m : Nat) (r : List Oper), r = (l.take n).drop m → AllOps (fun j o => ∀ k a w, k < n → a.defers = a0.defers → (∀ s, (∀ j, j < n → dstOf l.toArray j ≠ some s) → a.tmps.getD s undef = a0.tmps.getD s undef) →
        (∀ s, (∃ e ∈ o.after, Region.binds .any e = true ∧ dstOf l.toArray e.on = some s) → (tyAt tys s).Has D w0.heap.size g (a.tmps.getD s undef) w) → GrC g c S q w0.drew w → ((∃ p', p' ≤ p + k ∧ Rd D0 w g p') ∧ ∃ u v : Int, Box w c S [.int .i64 u, .int .i64 v]) →
        Oper.wp Try.prog o a w (PostG (GrC g c S q) (fun d => (tyAt tys d).Has D w0.heap.size g) (fun j w => j = i → ∃ xs, Bds q xs ∧ Box w c S (xs.map (Value.int .i64))) (fun k w => (∃ p', p' ≤ p + k ∧ Rd D0 w g p') ∧ ∃ u v : Int, Box w c S [.int .i64 u, .int .i64 v]) k j o a w) Q) m r := by
      intro m r
      induction r generalizing m with
      | nil => intro _; trivial
      | cons o r ih =>
        intro hi
        have hio : (l.take n)[m]? = some o := by
          have : ((l.take n).drop m)[0]? = some o := by rw [← hi]; rfl
          simpa using this
        have hin : m < n := by
          have := (List.getElem?_eq_some_iff.1 hio).1
          rw [List.length_take] at this; omega
        have hlo : l.toArray[m]? = some o := by rw [List.getElem?_take, if_pos hin] at hio; simpa using hio
        refine ⟨?_, ih (m + 1) ?_⟩
        · intro k a w hk hdef hfrm hdep hgr hW
          obtain ⟨hWr, hWc⟩ := hW
          have hchk := List.all_eq_true.1 h2 m (List.mem_range.2 hin)
          have hopnd : ∀ x, opndOk l.toArray n fr tys o x = true → (opndTy tys x).Has D w0.heap.size g (a.eval x) w := by
            intro x hxo
            cases x with
            | tmp s =>
              simp only [opndOk, Bool.or_eq_true, Bool.and_eq_true, decide_eq_true_eq] at hxo
              rcases hxo with hx1 | ⟨hx1, hx2⟩
              · obtain ⟨e, he, hb⟩ := Array.any_eq_true'.1 hx1
                simp only [Bool.and_eq_true, decide_eq_true_eq] at hb
                exact hdep s ⟨e, he, hb.1, hb.2⟩
              · have hnot : ∀ j, j < n → dstOf l.toArray j ≠ some s := fun j hj hjs => by
                  have : isDst l.toArray n s = true := List.any_eq_true.2 ⟨j, List.mem_range.2 hj, by simpa using hjs⟩
                  rw [this] at hx1; cases hx1
                show (tyAt tys s).Has D w0.heap.size g (a.tmps.getD s undef) w
                rw [hx2, hfrm s hnot]
                exact Ty.stableC hcD _ _ _ _ (tyAt_frame hfr s) (GrC.tr _ _ _ (GrC.of (⟨rfl, rfl, rfl, Nat.le_refl _, fun _ _ _ => rfl⟩ : w0.grownBy w0.drew (some g)) hc.lt hcg) hgr)
            | const v =>
              cases v with
              | int kd m =>
                cases kd <;> first | exact ⟨m, rfl, Int.le_refl _, Int.le_refl _⟩ | trivial
              | _ => trivial
            | global _ => trivial
            | func _ => trivial
          by_cases hmi : m = i
          · rw [if_pos hmi] at hchk
            rw [hmi] at hlo
            unfold stOk at hchk
            rw [hlo] at hchk
            simp only [Bool.and_eq_true] at hchk
            obtain ⟨hdn, hchk⟩ := hchk
            have hdn : o.dst = none := by simpa using hdn
            split at hchk
            · rename_i t x y ho
              simp only [Bool.and_eq_true, decide_eq_true_eq] at hchk
              obtain ⟨⟨⟨ht, hx⟩, hy⟩, hyo⟩ := hchk
              subst ht hx
              have hyv := hopnd y hyo
              rw [hy] at hyv
              obtain ⟨xs, hyv, hbd⟩ := hyv
              obtain ⟨m1, m2, rfl⟩ := hbd.two' hq
              obtain ⟨u1, v1, hcw⟩ := hWc
              have hrun := hSt o a.eval w (.tmp x) y c m1 m2 u1 v1 ho (by show a.tmps.getD x undef = _; rw [hfrm x hcs0, hcs]) hyv hcw
              have hbox : Box ((w.setCell ⟨c, 0, none⟩ (.int .i64 m1)).setCell ⟨c, 1, none⟩ (.int .i64 m2)) c t ([m1, m2].map (Value.int .i64)) := (hcw.set 0 (.int .i64 m1)).set 1 (.int .i64 m2)
              unfold Oper.wp
              rw [hrun]
              obtain ⟨p', hp', hr'⟩ := hWr
              refine ⟨⟨rfl, rfl, rfl, by simp, fun j hj h1 h2 => ?_, .inr ⟨[m1, m2], hbd, hbox⟩⟩, ⟨⟨p', by omega, (hr'.other hD0 hcg _ _).other hD0 hcg _ _⟩, m1, m2, hbox⟩, ?_⟩
              · exact (heap_setCell_other _ ⟨c, 1, none⟩ j _ h2).trans (heap_setCell_other _ ⟨c, 0, none⟩ j _ h2)
              · rw [hdn]
                exact ⟨rfl, fun _ => ⟨[m1, m2], hbd, hbox⟩⟩
            · cases hchk
          · rw [if_neg hmi] at hchk
            unfold opOk at hchk
            rw [hlo] at hchk
            cases hd : o.dst with
            | none => simp [hd] at hchk
            | some d =>
              simp only [hd, Bool.and_eq_true, decide_eq_true_eq] at hchk
              obtain ⟨⟨hty, _⟩, hop⟩ := hchk
              have hsd := kd_sound (D := D) (D0 := D0) (B := w0.heap.size) (Q := Q) (S := S) (l := tys) hd hty (fun _ => hS) (fun x hx => hopnd x (List.all_eq_true.1 hop x hx)) hWr (by omega) hgr.size hDg
              refine Oper.wp_mono (fun a' w' hg => ?_) hsd
              obtain ⟨v, ha, hT, hgg, hr'⟩ := hg
              obtain ⟨u1, v1, hcw⟩ := hWc
              refine ⟨GrC.of hgg hcw.lt hcg, ⟨hr', u1, v1, hcw.by hgg hcg⟩, ?_⟩
              rw [hd]
              exact ⟨v, ha, hT⟩
        · rw [← List.tail_drop, ← hi]; rfl
    exact hall 0 (l.take n) (by simp)
  · intro a w hsz hdef hfrm htyp hst hgr hW
    have hpe := putL_eq (ds := ds) (a0 := a0) (a := a) (by rw [hsz, hsize]) hdef (fun s hs => hfrm s (fun j hj hjs => hs ((hmemds s).2 ⟨j, hj, hjs⟩)))
    rw [← hpe]
    have hchk := List.all_eq_true.1 h2 i (List.mem_range.2 hin0)
    rw [if_pos rfl] at hchk
    unfold stOk at hchk
    cases ho : l.toArray[i]? with
    | none => rw [ho] at hchk; cases hchk
    | some o =>
      rw [ho] at hchk
      simp only [Bool.and_eq_true] at hchk
      exact htail (fun d => a.tmps.getD d undef) w (fun d hd => by
        obtain ⟨j, hj, hjs⟩ := (hmemds d).1 hd
        exact htyp j d hj hjs) (GrC.tr _ _ _ (GrC.of (⟨rfl, rfl, rfl, Nat.le_refl _, fun _ _ _ => rfl⟩ : w0.grownBy w0.drew (some g)) hc.lt hcg) hgr) (hst i o hin0 ho (by simpa using hchk.1) rfl) hW.1
end Go.Proofs.Ytalalapjanckdaa
