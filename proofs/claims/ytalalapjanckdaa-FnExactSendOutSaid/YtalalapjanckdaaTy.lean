/- A small checker for the drawn statements of the verifier's draws: each slot gets a type (a range of a number, a list of ranges, a pointer), and a region that the checker accepts leaves values of these types, in whatever order its operations come. -/
import Derived.Test.YtalalapjanckdaaPick
namespace Go.Proofs.Ytalalapjanckdaa
open Go.RowKit
variable {D B : Nat}
/-- What a slot of a drawn statement holds. -/
inductive Ty where
  | int (lo hi : Int)
  | bool
  | sl (xs : List (Int × Int))
  | pt (lo hi : Int)
  | agg (xs : List (Int × Int))
  | sb (e : TypeId) (xs : List (Int × Int))
  | nb (e : TypeId) (xs : List (Int × Int))
  | rd
  | any
  deriving DecidableEq
/-- The numbers lie in their ranges. -/
def Bds : List (Int × Int) → List Int → Prop
  | [], [] => True
  | p :: ps, x :: xs => p.1 ≤ x ∧ x ≤ p.2 ∧ Bds ps xs
  | _, _ => False
theorem Bds.len : ∀ {ps : List (Int × Int)} {xs : List Int}, Bds ps xs → xs.length = ps.length
  | [], [], _ => rfl
  | _ :: _, _ :: _, h => by simp [Bds.len h.2.2]
  | [], _ :: _, h => by cases h
  | _ :: _, [], h => by cases h
theorem Bds.get : ∀ {ps : List (Int × Int)} {xs : List Int} {j : Nat}, Bds ps xs → j < ps.length → ∃ x, xs[j]? = some x ∧ (ps.getD j (0, 0)).1 ≤ x ∧ x ≤ (ps.getD j (0, 0)).2
  | _ :: _, x :: _, 0, h, _ => ⟨x, rfl, h.1, h.2.1⟩
  | _ :: _, _ :: _, j + 1, h, hj => by
    obtain ⟨x, h1, h2⟩ := Bds.get (j := j) h.2.2 (by simpa using hj)
    exact ⟨x, by simpa using h1, by simpa using h2⟩
  | [], [], _, _, hj => by simp at hj
  | [], _ :: _, _, h, _ => by cases h
  | _ :: _, [], _, h, _ => by cases h
theorem getD_mem {ps : List (Int × Int)} {j : Nat} (hj : j < ps.length) : ps.getD j (0, 0) ∈ ps := by
  rw [List.getD_eq_getElem?_getD, List.getElem?_eq_getElem hj]; exact List.getElem_mem _
def ints (xs : List Int) : Array Value := (xs.map (Value.int .i64)).toArray
/-- The value fits; its memory is not the reader's. -/
def Ty.Has (D B g : Nat) : Ty → Value → World → Prop
  | .int lo hi, v, _ => ∃ x, v = .int .i64 x ∧ lo ≤ x ∧ x ≤ hi
  | .bool, v, _ => ∃ b, v = .bool b
  | .sl ps, v, w => ∃ b xs, v = .slice (some ⟨b, 0, none⟩) ps.length ps.length ∧ D ≤ b ∧ b ≠ g ∧ w.heap[b]? = some (.cells (ints xs) 3 (0, 0)) ∧ Bds ps xs
  | .pt lo hi, v, w => ∃ b j x, v = .pointer (some ⟨b, j, none⟩) ∧ D ≤ b ∧ b ≠ g ∧ b < w.heap.size ∧ w.cell? ⟨b, j, none⟩ = some (.int .i64 x) ∧ lo ≤ x ∧ x ≤ hi
  | .agg ps, v, _ => ∃ xs, v = .agg (ints xs) ∧ Bds ps xs
  | .sb e ps, v, w => ∃ b xs, v = .pointer (some ⟨b, 0, none⟩) ∧ D ≤ b ∧ b ≠ g ∧ w.heap[b]? = some (.cells (ints xs) e (0, 0)) ∧ Bds ps xs
  | .nb e ps, v, w => ∃ b xs, v = .pointer (some ⟨b, 0, none⟩) ∧ B ≤ b ∧ D ≤ b ∧ b ≠ g ∧ w.heap[b]? = some (.cells (ints xs) e (0, 0)) ∧ Bds ps xs
  | .rd, v, _ => v = .pointer (some ⟨g, 0, none⟩)
  | .any, _, _ => True
theorem lt_of_heap {w : World} {b : Nat} {o : Obj} (h : w.heap[b]? = some o) : b < w.heap.size := by
  rcases Nat.lt_or_ge b w.heap.size with h' | h'
  · exact h'
  · rw [Array.getElem?_eq_none h'] at h; cases h
theorem Ty.stable {g : Nat} (t : Ty) (v : Value) (w w' : World) (h : t.Has D B g v w) (hg : w.grownBy w' (some g)) : t.Has D B g v w' := by
  cases t with
  | int lo hi => exact h
  | bool => exact h
  | agg ps => exact h
  | rd => exact h
  | any => trivial
  | sl ps =>
    obtain ⟨b, xs, h1, h0, h2, h3, h4⟩ := h
    exact ⟨b, xs, h1, h0, h2, (hg.block b (lt_of_heap h3) (fun e => h2 (by simpa using e))).trans h3, h4⟩
  | pt lo hi =>
    obtain ⟨b, j, x, h1, h0, h2, h3, h4, h5⟩ := h
    exact ⟨b, j, x, h1, h0, h2, Nat.lt_of_lt_of_le h3 hg.size, (World.cell?_of_block (hg.block b h3 (fun e => h2 (by simpa using e)))).trans h4, h5⟩
  | sb e ps =>
    obtain ⟨b, cs, h1, h0, h2, h3, h4⟩ := h
    exact ⟨b, cs, h1, h0, h2, (hg.block b (lt_of_heap h3) (fun e => h2 (by simpa using e))).trans h3, h4⟩
  | nb e ps =>
    obtain ⟨b, cs, h1, hB, h0, h2, h3, h4⟩ := h
    exact ⟨b, cs, h1, hB, h0, h2, (hg.block b (lt_of_heap h3) (fun e => h2 (by simpa using e))).trans h3, h4⟩
/-- The slots' types, as a list of pairs. -/
def tyAt (l : List (Tmp × Ty)) (d : Tmp) : Ty := ((l.find? fun p => p.1 == d).map (·.2)).getD .any
def opndTy (l : List (Tmp × Ty)) : Operand → Ty
  | .tmp d => tyAt l d
  | .const (.int .i64 n) => .int n n
  | _ => .any
/-- The kinds of operation that the checker knows. -/
inductive Kd where
  | mv (x : Operand)
  | pk (x y : Operand)
  | mul (x y : Operand)
  | add (x y : Operand)
  | sub (x y : Operand)
  | quo (x y : Operand)
  | eql (x y : Operand)
  | bs (n : Nat) (ps : List (Nat × Operand))
  | ix (x y : Operand)
  | ld (x : Operand)
  | ldS (x : Operand)
  | fa (x : Operand) (i : Nat)
  | bd (ps : List (Nat × Operand))
  | al
  | no
def kindOf (S : TypeId) (o : Oper) : Kd :=
  match o.op with
  | .move x => .mv x
  | .assign x => .mv x
  | .call c => match c.callee, c.args.toList with
    | .value (.func f), [x, y] => if f = 48 then .pk x y else .no
    | _, _ => .no
  | .binOp b t x y _ => if t = 3 then (match b with | .mul => .mul x y | .add => .add x y | .sub => .sub x y | .quo => .quo x y | .eql => .eql x y | _ => .no) else .no
  | .buildSlice t n ps => if t = 50 then .bs n ps.toList else .no
  | .indexAddr t x y => if t = 50 then .ix x y else .no
  | .load t x => if t = 3 then .ld x else if t = S then .ldS x else .no
  | .fieldAddr t x i => if t = S then .fa x i else .no
  | .build t ps => if t = S then .bd ps.toList else .no
  | .alloc t => if t = S then .al else .no
  | _ => .no
def big : Int := 1000000000
def rng (lo hi : Int) : Option Ty := if -big ≤ lo ∧ hi ≤ big then some (.int lo hi) else none
def asInts (l : List (Tmp × Ty)) : List (Nat × Operand) → Nat → Option (List (Int × Int))
  | [], _ => some []
  | (i, x) :: r, k => if i = k then (match opndTy l x, asInts l r (k + 1) with | .int lo hi, some q => some ((lo, hi) :: q) | _, _ => none) else none
def minOf (ps : List (Int × Int)) : Int := ps.foldr (fun p m => min p.1 m) big
def maxOf (ps : List (Int × Int)) : Int := ps.foldr (fun p m => max p.2 m) (-big)
theorem minOf_le {ps : List (Int × Int)} {p : Int × Int} (h : p ∈ ps) : minOf ps ≤ p.1 := by
  induction ps with
  | nil => cases h
  | cons q r ih =>
    simp only [minOf, List.foldr_cons]
    rcases List.mem_cons.1 h with rfl | h
    · omega
    · have := ih h; unfold minOf at this; omega
theorem le_maxOf {ps : List (Int × Int)} {p : Int × Int} (h : p ∈ ps) : p.2 ≤ maxOf ps := by
  induction ps with
  | nil => cases h
  | cons q r ih =>
    simp only [maxOf, List.foldr_cons]
    rcases List.mem_cons.1 h with rfl | h
    · omega
    · have := ih h; unfold maxOf at this; omega
/-- The type that an operation gives (two fields in the struct S). -/
def tyK (S : TypeId) (l : List (Tmp × Ty)) : Kd → Option Ty
  | .mv x => some (opndTy l x)
  | .pk x y => if opndTy l x = .rd then (match opndTy l y with | .int lo hi => if 1 ≤ lo ∧ hi ≤ big then some (.int 0 (hi - 1)) else none | _ => none) else none
  | .mul x y => match opndTy l x, opndTy l y with | .int a b, .int c d => if 0 ≤ a ∧ c = d ∧ 0 ≤ c then rng (a * c) (b * c) else none | _, _ => none
  | .add x y => match opndTy l x, opndTy l y with | .int a b, .int c d => rng (a + c) (b + d) | _, _ => none
  | .sub x y => match opndTy l x, opndTy l y with | .int a b, .int c d => rng (a - d) (b - c) | _, _ => none
  | .quo x y => match opndTy l x, opndTy l y with | .int a b, .int c d => if 0 ≤ a ∧ c = d ∧ 1 ≤ c then rng (a / c) (b / c) else none | _, _ => none
  | .eql x y => match opndTy l x, opndTy l y with | .int _ _, .int _ _ => some .bool | _, _ => none
  | .bs n ps => match asInts l ps 0 with | some q => if q.length = n ∧ 1 ≤ n ∧ n ≤ 8 then some (.sl q) else none | none => none
  | .ix x y => match opndTy l x, opndTy l y with | .sl q, .int lo hi => if 0 ≤ lo ∧ hi < q.length then some (.pt (minOf q) (maxOf q)) else none | _, _ => none
  | .ld x => match opndTy l x with | .pt lo hi => some (.int lo hi) | _ => none
  | .ldS x => match opndTy l x with | .sb e [p, q] => if e = S then some (.agg [p, q]) else none | _ => none
  | .fa x i => match opndTy l x with | .sb e [p, q] => if e = S ∧ i = 0 then some (.pt p.1 p.2) else if e = S ∧ i = 1 then some (.pt q.1 q.2) else none | _ => none
  | .bd ps => match asInts l ps 0 with | some [p, q] => some (.agg [p, q]) | _ => none
  | .al => some (.nb S [(0, 0), (0, 0)])
  | .no => none
end Go.Proofs.Ytalalapjanckdaa
