/- The draws of the laws FindFlow and DropFlow. No condition. -/
import Derived.Test.YtdkdfehlmphikaaMF
import Derived.Test.YtdkdfehlmphikaaMG
namespace Go.Proofs.Ytdkdfehlmphikaa
open Go.RowKit
/-- The store of a table into a box. -/
theorem st_table (o : Oper) (ρ : Operand → Value) (w : World) (x y : Operand) (b : Nat) (N R : Int) (q : Option Addr) (c n : Nat) (us : List Value) (ho : o.op = .store 30 x y) (hx : ρ x = .pointer (some ⟨b, 0, none⟩)) (hy : ρ y = .agg #[.int .i64 N, .int .i64 R, .slice q n c]) (hb : Box w b 30 us) (hl : us.length = 3) :
    ∃ w', (execOp ρ o).run Try.prog w = .ok .skip w' ∧ Box w' b 30 [.int .i64 N, .int .i64 R, .slice q n c] ∧ w.grownBy w' (some b) := by
  obtain ⟨u0, u1, u2, rfl⟩ : ∃ u0 u1 u2, us = [u0, u1, u2] := by
    match us, hl with
    | [a, b, c], _ => exact ⟨a, b, c, rfl⟩
  obtain ⟨c0, c1, c2, cf⟩ := hb.three
  refine ⟨((w.setCell ⟨b, 0, none⟩ (.int .i64 N)).setCell ⟨b, 1, none⟩ (.int .i64 R)).setCell ⟨b, 2, none⟩ (.slice q n c), ?_, ((hb.set 0 _).set 1 _).set 2 _, grownBy_tr (grownBy_tr (gb_setp _ _ _) (gb_setp _ ⟨b, 1, none⟩ _)) (gb_setp _ ⟨b, 2, none⟩ _)⟩
  simp [execOp, ho, hx, hy, c0, c1, c2, cf, go_sem]
/-- The store of a flow into a box. -/
theorem st_flow (o : Oper) (ρ : Operand → Value) (w : World) (x y : Operand) (b : Nat) (f : F5) (us : List Value) (ho : o.op = .store 37 x y) (hx : ρ x = .pointer (some ⟨b, 0, none⟩)) (hy : ρ y = fvv f) (hb : Box w b 37 us) (hl : us.length = 5) :
    ∃ w', (execOp ρ o).run Try.prog w = .ok .skip w' ∧ Box w' b 37 ((fI f).map (Value.int .i64)) ∧ w.grownBy w' (some b) := by
  obtain ⟨u0, u1, u2, u3, u4, rfl⟩ : ∃ u0 u1 u2 u3 u4, us = [u0, u1, u2, u3, u4] := by
    match us, hl with
    | [a, b, c, d, e], _ => exact ⟨a, b, c, d, e, rfl⟩
  obtain ⟨x0, x1, x2, x3, x4⟩ := f
  unfold fvv at hy
  obtain ⟨c0, c1, c2, c3, c4, cf⟩ := hb.five
  refine ⟨((((w.setCell ⟨b, 0, none⟩ (.int .i64 x0)).setCell ⟨b, 1, none⟩ (.int .i64 x1)).setCell ⟨b, 2, none⟩ (.int .i64 x2)).setCell ⟨b, 3, none⟩ (.int .i64 x3)).setCell ⟨b, 4, none⟩ (.int .i64 x4), ?_, ((((hb.set 0 _).set 1 _).set 2 _).set 3 _).set 4 _, grownBy_tr (grownBy_tr (grownBy_tr (grownBy_tr (gb_setp _ _ _) (gb_setp _ ⟨b, 1, none⟩ _)) (gb_setp _ ⟨b, 2, none⟩ _)) (gb_setp _ ⟨b, 3, none⟩ _)) (gb_setp _ ⟨b, 4, none⟩ _)⟩
  simp [execOp, ho, hx, hy, c0, c1, c2, c3, c4, cf, go_sem]
theorem blk5 (w : World) {k j : Nat} (h : j ≠ k) (u0 u1 u2 u3 u4 : Value) : (((((w.setCell ⟨k, 0, none⟩ u0).setCell ⟨k, 1, none⟩ u1).setCell ⟨k, 2, none⟩ u2).setCell ⟨k, 3, none⟩ u3).setCell ⟨k, 4, none⟩ u4).heap[j]? = w.heap[j]? :=
  (heap_setCell_other _ ⟨k, 4, none⟩ j u4 h).trans ((heap_setCell_other _ ⟨k, 3, none⟩ j u3 h).trans ((heap_setCell_other _ ⟨k, 2, none⟩ j u2 h).trans ((heap_setCell_other _ ⟨k, 1, none⟩ j u1 h).trans (heap_setCell_other _ ⟨k, 0, none⟩ j u0 h))))
theorem below5 {B : Nat} {w0 w : World} (hb : Below B w0 w) {k : Nat} (h : B ≤ k) (u0 u1 u2 u3 u4 : Value) : Below B w0 (((((w.setCell ⟨k, 0, none⟩ u0).setCell ⟨k, 1, none⟩ u1).setCell ⟨k, 2, none⟩ u2).setCell ⟨k, 3, none⟩ u3).setCell ⟨k, 4, none⟩ u4) :=
  ((((hb.setCell h _).setCell h _).setCell h _).setCell h _).setCell h _
/-- .. inside a drawn region. -/
theorem hand_table {D D0 B : Nat} {cs : List MB} {st : List (Nat × MB)} {tys : List (Tmp × Ty)} {src : List (Tmp × Tmp)} {X : List (Tmp × (Value → World → Prop))} {g p c k i : Nat} {a0 a : Act} {w : World} {Q : Exit → Act → World → Prop} {o : Oper} {q : MB} {s d : Tmp} {N R : Int} {b : Option Addr} {n cap : Nat} {us : List Value}
    (hq : q ∈ cs) (hdist : ∀ x ∈ cs, x.1 = q.1 → x = q) (hst : ∀ x ∈ st, x.1 = i → x.2 = q) (hR : ∃ p', p' ≤ p + c * k ∧ Rd D0 w g p') (hD : D0 ≤ q.1) (hqg : q.1 ≠ g) (hd : o.dst = none) (ho : o.op = .store 30 (.tmp s) (.tmp d))
    (hx : a.tmps.getD s undef = .pointer (some ⟨q.1, 0, none⟩)) (hy : a.tmps.getD d undef = .agg #[.int .i64 N, .int .i64 R, .slice b n cap]) (he : q.2 = (30, [.int .i64 N, .int .i64 R, .slice b n cap])) (hus : Box w q.1 q.2.1 us) (hl : us.length = q.2.2.length) (hlt : ∀ x ∈ cs, x.1 < w.heap.size) :
    Oper.wp Try.prog o a w (PostM (GrM g cs) (FM st) tys src X D D0 B g p c k i a0 o a w) Q := by
  obtain ⟨q1, q2⟩ := q
  simp only at he
  subst he
  obtain ⟨W2, hr2, hb2, hg2⟩ := st_table o a.eval w (.tmp s) (.tmp d) q1 N R b cap n us ho hx hy hus hl
  exact hand_store hq hdist hst hR hD hqg hd hr2 hb2 hg2 hlt
theorem hand_flow {D D0 B : Nat} {cs : List MB} {st : List (Nat × MB)} {tys : List (Tmp × Ty)} {src : List (Tmp × Tmp)} {X : List (Tmp × (Value → World → Prop))} {g p c k i : Nat} {a0 a : Act} {w : World} {Q : Exit → Act → World → Prop} {o : Oper} {q : MB} {s d : Tmp} {f : F5} {us : List Value}
    (hq : q ∈ cs) (hdist : ∀ x ∈ cs, x.1 = q.1 → x = q) (hst : ∀ x ∈ st, x.1 = i → x.2 = q) (hR : ∃ p', p' ≤ p + c * k ∧ Rd D0 w g p') (hD : D0 ≤ q.1) (hqg : q.1 ≠ g) (hd : o.dst = none) (ho : o.op = .store 37 (.tmp s) (.tmp d))
    (hx : a.tmps.getD s undef = .pointer (some ⟨q.1, 0, none⟩)) (hy : a.tmps.getD d undef = fvv f) (he : q.2 = (37, (fI f).map (Value.int .i64))) (hus : Box w q.1 q.2.1 us) (hl : us.length = q.2.2.length) (hlt : ∀ x ∈ cs, x.1 < w.heap.size) :
    Oper.wp Try.prog o a w (PostM (GrM g cs) (FM st) tys src X D D0 B g p c k i a0 o a w) Q := by
  obtain ⟨q1, q2⟩ := q
  simp only at he
  subst he
  obtain ⟨W2, hr2, hb2, hg2⟩ := st_flow o a.eval w (.tmp s) (.tmp d) q1 f us ho hx hy hus hl
  exact hand_store hq hdist hst hR hD hqg hd hr2 hb2 hg2 hlt
theorem run_fldT (o : Oper) (ρ : Operand → Value) (w : World) (x : Operand) (b : Nat) (ho : o.op = .fieldAddr 30 x 2) (hx : ρ x = .pointer (some ⟨b, 0, none⟩)) : (execOp ρ o).run Try.prog w = .ok (.value (.pointer (some ⟨b, 2, none⟩))) w := by
  simp [execOp, ho, hx, go_sem]
theorem run_lenE (o : Oper) (ρ : Operand → Value) (w : World) (x : Operand) (a : Option Addr) (n c : Nat) (ho : o.op = .call { callee := .builtin .len, args := #[x], argTypes := #[28] }) (hx : ρ x = .slice a n c) : (execOp ρ o).run Try.prog w = .ok (.value (.int .i64 n)) w := by
  simp [execOp, ho, hx, Builtin.len_, go_sem]
theorem run_ixE (o : Oper) (ρ : Operand → Value) (w : World) (x y : Operand) (b off n c j : Nat) (hj : j < n) (ho : o.op = .indexAddr 28 x y)
    (hx : ρ x = .slice (some ⟨b, off, none⟩) n c) (hy : ρ y = .int .i64 j) : (execOp ρ o).run Try.prog w = .ok (.value (.pointer (some ⟨b, off + j * 7, none⟩))) w := by
  simp [execOp, ho, hx, hy, hj, go_sem]
theorem run_fldE (o : Oper) (ρ : Operand → Value) (w : World) (x : Operand) (b off : Nat) (ho : o.op = .fieldAddr 69 x 0) (hx : ρ x = .pointer (some ⟨b, off, none⟩)) : (execOp ρ o).run Try.prog w = .ok (.value (.pointer (some ⟨b, off, none⟩))) w := by
  simp [execOp, ho, hx, go_sem]
theorem run_ldF (o : Oper) (ρ : Operand → Value) (w : World) (x : Operand) (b off : Nat) (e : E7) (ho : o.op = .load 37 x) (hx : ρ x = .pointer (some ⟨b, off, none⟩)) (h : EntAt w b off e) : (execOp ρ o).run Try.prog w = .ok (.value (fvv e.1)) w := by
  obtain ⟨c0, c1, c2, c3, c4, _⟩ := h
  simp [execOp, ho, hx, c0, c1, c2, c3, c4, fvv, go_sem]
theorem EntAt.of_block {w w' : World} {b off : Nat} {e : E7} (h : EntAt w b off e) (hb : w'.heap[b]? = w.heap[b]?) : EntAt w' b off e := by
  obtain ⟨c0, c1, c2, c3, c4, c5, c6⟩ := h
  exact ⟨(World.cell?_of_block hb).trans c0, (World.cell?_of_block hb).trans c1, (World.cell?_of_block hb).trans c2, (World.cell?_of_block hb).trans c3, (World.cell?_of_block hb).trans c4, (World.cell?_of_block hb).trans c5, (World.cell?_of_block hb).trans c6⟩
/-- A row's address, its block is neither the reader's nor a result's. -/
theorem Ents.of_block {w w' : World} {a : Option Addr} {es : List E7} (h : Ents w a es) (hs : w.heap.size ≤ w'.heap.size) (hb : ∀ q, a = some q → w'.heap[q.block]? = w.heap[q.block]?) : Ents w' a es := by
  rcases h with h | ⟨b', off, ha, hlt, hc⟩
  · exact .inl h
  · exact .inr ⟨b', off, ha, Nat.lt_of_lt_of_le hlt hs, fun i hi => (World.cell?_of_block (a := ⟨b', off + i, none⟩) (hb ⟨b', off, none⟩ ha)).trans (hc i hi)⟩
theorem vp_pure {G : World → World → Prop} {P : Value → Prop} : ∀ v w w', (fun v (_ : World) => P v) v w → G w w' → (fun v (_ : World) => P v) v w' := fun _ _ _ h _ => h
/-- A table and a flow are drawn; nothing that was there has turned. -/
def RetDFn (w : World) (e : Ending) (w' : World) : Prop :=
  ∃ (N R : Int) (a : Option Addr) (cap : Nat) (es : List E7) (f : F5), e = .returned (.tuple #[.agg #[.int .i64 N, .int .i64 R, .slice a es.length cap], fvv f]) ∧ es.length ≤ 8 ∧ es.length ≤ cap ∧ (a = none → es.length = 0 ∧ cap = 0) ∧ (∀ q, a = some q → w.heap.size ≤ q.block) ∧ Ents w' a es ∧ Below w.heap.size w w'
/-- What the slots of the row's index hold. -/
def XF4 (N R : Int) (b off n cap b5 : Nat) : List (Tmp × VP) :=
  [(19, fun v _ => v = .agg #[.int .i64 N, .int .i64 R, .slice (some ⟨b, off, none⟩) n cap]), (20, fun v _ => v = .pointer (some ⟨b5, 2, none⟩)), (21, fun v _ => v = .slice (some ⟨b, off, none⟩) n cap), (23, fun v _ => v = .pointer (some ⟨b5, 2, none⟩)), (24, fun v _ => v = .slice (some ⟨b, off, none⟩) n cap), (25, fun v _ => v = .int .i64 n),
   (26, fun v _ => ∃ j : Nat, v = .int .i64 j ∧ j < n), (27, fun v _ => ∃ j : Nat, v = .pointer (some ⟨b, off + j * 7, none⟩) ∧ j < n), (28, fun v _ => ∃ j : Nat, v = .pointer (some ⟨b, off + j * 7, none⟩) ∧ j < n), (29, fun v _ => ∃ f : F5, v = fvv f)]
theorem XF4.stable {N R : Int} {b off n cap b5 : Nat} {G : World → World → Prop} : ∀ q ∈ XF4 N R b off n cap b5, ∀ v w w', q.2 v w → G w w' → q.2 v w' := by
  intro q hq v w w' h hg
  simp only [XF4, List.mem_cons, List.not_mem_nil, or_false] at hq
  rcases hq with rfl | rfl | rfl | rfl | rfl | rfl | rfl | rfl | rfl | rfl <;> exact h
theorem XF4.nd {N R : Int} {b off n cap b5 : Nat} : ((XF4 N R b off n cap b5).map (·.1)).Nodup := by
  show ([19, 20, 21, 23, 24, 25, 26, 27, 28, 29] : List Nat).Nodup
  decide
set_option maxHeartbeats 4000000 in
set_option maxRecDepth 100000 in
theorem s_DrawFindFlow (a : Option Addr) (len cap : Nat) (w : World) (hcl : len ≤ cap) (hcap : cap ≤ maxLen) (h : Code w.heap.size w a len) :
    Calls Try.prog 40 #[.slice a len cap] w (RetDFn w) := by
  have HC := Lib.hid h
  clear h
  go_enter Try.func40, Try.ntmps40
  go_wp2_with fail
  refine (c_open (D := w.heap.size) a len cap _ hcl hcap (by simp only [World.size_alloc]; omega) (HC.out.below (((Below.refl _ _).alloc (Nat.le_refl _) _).alloc (by simp) _))).mono ?_
  rintro e w1 ⟨g, rfl, hg, hr, hb⟩
  simp only [World.size_alloc] at hg
  have HR := Lib.hid hr
  have hz := hb.size
  simp only [World.size_alloc] at hz
  have q1 : Below w.heap.size w w1 := (((Below.refl _ _).alloc (Nat.le_refl _) _).alloc (by simp) _).trans (hb.mono (by simp only [World.size_alloc]; omega))
  have B1 : Box w1 w.heap.size 30 [.int .i64 0, .int .i64 0, .slice none 0 0] := ((Box.new w 30 [.int .i64 0, .int .i64 0, .slice none 0 0]).alloc _).keep hb
  have B1' : Box w1 (w.heap.size + 1) 37 [.int .i64 0, .int .i64 0, .int .i64 0, .int .i64 0, .int .i64 0] := (Box.new2 (w.alloc _) 37 [.int .i64 0, .int .i64 0, .int .i64 0, .int .i64 0, .int .i64 0] (w.heap.size + 1) (by simp only [World.size_alloc])).keep hb
  clear hr hb
  go_wp2_with fail
  refine (s_l20Table g 0 none 0 0 [] 9 _ HR.out (by omega) (by omega) (by omega) rfl (by omega) (.inl rfl) (fun _ h => by cases h)).mono ?_
  rintro e w2 ⟨N, R, b, c2, es, rfl, hx, ho2, ⟨p2, hp2, hr2⟩, hg2⟩
  obtain ⟨w3, hw3, hb3, hz3, hx3⟩ : ∃ W, W = w2.alloc (.cells #[.int .i64 N, .int .i64 R, .slice b es.length c2] 30) ∧ Below w2.heap.size w2 W ∧ W.heap.size = w2.heap.size + 1 ∧ Box W w2.heap.size 30 [.int .i64 N, .int .i64 R, .slice b es.length c2] := head1 w2 30 _
  have hgl2 := hr2.lt
  have z2 := hg2.size
  have HW3 := Lib.hid hw3
  have B3 := Lib.hid ((B1.by hg2 (by omega)).keep hb3)
  have B3' := Lib.hid ((B1'.by hg2 (by omega)).keep hb3)
  have q3 := Lib.hid ((q1.trans (gb_below hg2 (by omega) (by omega))).trans (hb3.mono (by omega)))
  have HR3 := Lib.hid (hr2.keep (below_grown hb3))
  have HT := Lib.hid hx3
  have HI := Lib.hid ((EntRow.ents ho2).below hb3)
  have z3 : w2.heap.size + 1 ≤ w3.heap.size := by omega
  have hcp := (row_cap ho2).1
  have hnn := Lib.hid (own_none ho2)
  have hbk : Hid (∀ q, b = some q → q.block ≠ g ∧ q.block ≠ w.heap.size ∧ q.block ≠ w.heap.size + 1 ∧ q.block < w2.heap.size ∧ w.heap.size ≤ q.block) := Lib.hid (fun q hq => by
    have hlt := ho2.lt q.block (by rw [hq]; rfl)
    have hg1 := HR.out.lt
    refine ⟨by omega, by omega, by omega, by omega, by omega⟩)
  clear q1 B1 B1' hg2 hr2 hw3 hb3 hz3 hx3 ho2
  obtain ⟨n, hn⟩ : ∃ n, es.length = n := ⟨_, rfl⟩
  have hret : Hid (∀ (f : F5) (w' : World), Ents w' b es → Below w.heap.size w w' → RetDFn w (.returned (.tuple #[.agg #[.int .i64 N, .int .i64 R, .slice b n c2], fvv f])) w') := Lib.hid (fun f w' h1 h2 => by
    rw [← hn]
    exact ⟨N, R, b, c2, es, f, rfl, hx, hcp, hnn.out, fun q hq => (hbk.out q hq).2.2.2.2, h1, h2⟩)
  have hcp' : n ≤ c2 := hn ▸ hcp
  rw [hn] at HW3 HT ⊢
  have HN := Lib.hid hn
  clear hn
  have hn8 : n ≤ 8 := by have := HN.out; omega
  have HGM : ∀ (cs : List MB), (∀ q ∈ cs, q.1 < w.heap.size + 2 ∧ q.1 < w3.heap.size) → RelOk (w.heap.size + 2) g w3 (GrM g cs) := fun cs h => GrM.ok h (by omega)
  by_cases h0 : n = 0
  · subst h0
    have HC9 : ∀ q ∈ ([(w.heap.size, 30, [.int .i64 N, .int .i64 R, .slice b 0 c2])] : List MB), q.1 < w.heap.size + 2 ∧ q.1 < w3.heap.size := fun q hq => by rw [List.mem_singleton.1 hq]; exact ⟨by show w.heap.size < _; omega, B3.out.lt⟩
    go_upto_region 5 with fail
    rw [← HW3.out]
    have HG9 := HGM _ HC9
    refine region_checked_G (D := w.heap.size + 2) (D0 := w.heap.size) _ 0 false 4 33 g p2 50 (GrM g [(w.heap.size, 30, [.int .i64 N, .int .i64 R, .slice b 0 c2])]) (FM [(3, (w.heap.size, 30, [.int .i64 N, .int .i64 R, .slice b 0 c2]))]) [(4, .rd)] [(4, .rd), (30, .any), (31, .rd), (32, .any)] [30, 31, 32] [] [(30, fun v _ => v = .agg #[.int .i64 N, .int .i64 R, .slice b 0 c2]), (32, fun v _ => ∃ f : F5, v = fvv f)] [30, 32] [0, 2, 3] rfl (by kernel_rfl) rfl ?_ (fun h => by cases h) ?_ HR3.out (by omega) (by omega) HG9 (FM.stable (fun x hx => by rw [List.mem_singleton.1 hx]; exact List.mem_cons_self)) (by omega) ?_ ?_
    · intro q hq v w9 w9' h _
      simp only [List.mem_cons, List.not_mem_nil, or_false] at hq
      rcases hq with rfl | rfl <;> exact h
    · intro q hq
      rw [List.mem_singleton.1 hq]
      rfl
    · intro i hi o hin ho k a' W' hk hdef hfrm hdep hgr hW
      have hnd : (([(30, fun v _ => v = .agg #[.int .i64 N, .int .i64 R, .slice b 0 c2]), (32, fun v _ => ∃ f : F5, v = fvv f)] : List (Tmp × VP)).map (·.1)).Nodup := by show ([30, 32] : List Nat).Nodup; decide
      have hT' : Box W' w2.heap.size 30 [.int .i64 N, .int .i64 R, .slice b 0 c2] := hgr.box HT.out (by omega) (fun q hq => by rw [List.mem_singleton.1 hq]; show w2.heap.size ≠ w.heap.size; omega)
      have e5 : a'.tmps.getD 5 undef = .pointer (some ⟨w2.heap.size, 0, none⟩) := (hfrm 5 (by kernel_rfl)).trans rfl
      have e2 : a'.tmps.getD 2 undef = .pointer (some ⟨w.heap.size, 0, none⟩) := (hfrm 2 (by kernel_rfl)).trans rfl
      simp only [List.mem_cons, List.not_mem_nil, or_false] at hi
      rcases hi with rfl | rfl | rfl
      all_goals
        injection ho with ho
        subst ho
      · exact hand_val hnd (fun w => GrM.rfl' w) hW rfl rfl rfl (run_ldTi _ _ _ _ w2.heap.size _ _ _ rfl e5 hT') rfl
      · obtain ⟨q9, hq9, hr9⟩ := hW
        skip
        have e31 : a'.tmps.getD 31 undef = .pointer (some ⟨g, 0, none⟩) := (hdep 31 (by kernel_rfl)).1
        have hv9 : (#[Operand.tmp 31, Operand.const (.int .i64 6)] : Array Operand).map a'.eval = #[.pointer (some ⟨g, 0, none⟩), .int .i64 6] := by simp only [List.map_toArray, List.map_cons, List.map_nil, Act.eval, e31]
        refine hand_call hnd (fun w' h => HG9.of _ _ hgr h) rfl rfl rfl (run_callL _ _ _ 80 _ _ _ rfl rfl hv9 (enters_of Try.func80 (by kernel_rfl) rfl)) ?_
        have : k = 0 ∨ k = 1 ∨ k = 2 ∨ k = 3 := by omega
        refine (s_l20Flow g q9 6 W' hr9 (by omega) (by omega) (by omega)).mono ?_
        rintro e w5 ⟨x0, x1, x2, x3, x4, rfl, ⟨p5, hp5, hr5⟩, g5⟩
        exact ⟨_, rfl, ⟨(x0, x1, x2, x3, x4), rfl⟩, g5, p5, by omega, hr5⟩
      · have e30 : a'.tmps.getD 30 undef = _ := XHas.at (hdep 30 (by kernel_rfl)).2.2
        obtain ⟨us, hus, hul⟩ := hgr.len (q := (w.heap.size, 30, [.int .i64 N, .int .i64 R, .slice b 0 c2])) List.mem_cons_self B3.out rfl
        exact hand_table (q := (w.heap.size, 30, [.int .i64 N, .int .i64 R, .slice b 0 c2])) List.mem_cons_self (fun x hx _ => List.mem_singleton.1 hx) (fun x hx _ => by rw [List.mem_singleton.1 hx]) hW (Nat.le_refl _) (by show w.heap.size ≠ g; omega) rfl rfl e2 e30 rfl hus hul (fun x hx => by rw [List.mem_singleton.1 hx]; exact hus.lt)
    · intro f w4 hf hgr hst hrd
      have e30 : f 30 = _ := XHas.at (hf 30 (by decide)).2.2
      obtain ⟨f5, e32⟩ : ∃ f5 : F5, f 32 = fvv f5 := XHas.at (hf 32 (by decide)).2.2
      have e31 : f 31 = .pointer (some ⟨g, 0, none⟩) := (hf 31 (by decide)).1
      have hBc : Box w4 w.heap.size 30 [.int .i64 N, .int .i64 R, .slice b 0 c2] := hst 3 _ (by decide) rfl rfl _ List.mem_cons_self rfl
      have hBf : Box w4 (w.heap.size + 1) 37 [.int .i64 0, .int .i64 0, .int .i64 0, .int .i64 0, .int .i64 0] := hgr.box B3'.out (by omega) (fun q hq => by rw [List.mem_singleton.1 hq]; show w.heap.size + 1 ≠ w.heap.size; omega)
      have q4 := Lib.hid (q3.out.trans (hgr.below (L := w.heap.size) (by have := B3.out.lt; omega) (by omega) (fun q hq => by rw [List.mem_singleton.1 hq]; exact Nat.le_refl _)))
      have HI4 := Lib.hid (HI.out.of_block hgr.size (fun q hq => hgr.block q.block (by have := (hbk.out q hq).2.2.2.1; have := HT.out.lt; omega) (hbk.out q hq).1 (fun x hx => by rw [List.mem_singleton.1 hx]; exact (hbk.out q hq).2.1)))
      obtain ⟨x0, x1, x2, x3, x4⟩ := f5
      obtain ⟨y0, y1, y2, fy⟩ := hBc.three
      obtain ⟨z0, z1, z2, z3, z4, fz⟩ := hBf.five
      simp only [List.drop_succ_cons, List.drop_zero, putL, Act.put, List.setIfInBounds_toArray, List.set_cons_succ, List.set_cons_zero, e30, e31, e32, fvv]
      clear hf hgr hst hrd e30 e31 e32 hBc hBf
      have hne9 : ¬ w.heap.size = w.heap.size + 1 := by omega
      have hne8 : ¬ w.heap.size + 1 = w.heap.size := by omega
      go_wp2
      refine bodyPost_ret (v := .tuple #[.agg #[.int .i64 N, .int .i64 R, .slice b 0 c2], fvv (x0, x1, x2, x3, x4)]) (by simp [results, Try.results40, go_sem, fvv, y0, y1, y2, z0, z1, z2, z3, z4]) rfl ?_
      exact hret.out (x0, x1, x2, x3, x4) _ (HI4.out.of_block (by simp) (fun q hq => blk5 _ (hbk.out q hq).2.2.1 _ _ _ _ _)) (below5 q4.out (by omega) _ _ _ _ _)
  · have hn0 : decide ((0 : Int) < (n : Int)) = true := decide_eq_true (by omega)
    have hn1 : (0 : Int) < (n : Int) := by omega
    go_wp2_with fail
    rw [← HW3.out]
    refine (c_pick g p2 2 _ HR3.out (by omega) (by omega) (by omega)).mono ?_
    rintro e w4 ⟨x, rfl, y1, y2, _, hr4, hg4⟩
    have y3 := y2 (by omega)
    have HR4 := Lib.hid hr4
    have B4 := Lib.hid (B3.out.by hg4 (by omega))
    have B4' := Lib.hid (B3'.out.by hg4 (by omega))
    have HT4 := Lib.hid (HT.out.by hg4 (by omega))
    have HI4 := Lib.hid (HI.out.of_block hg4.size (fun q hq => hg4.block q.block (by have := (hbk.out q hq).2.2.2.1; omega) (fun e => (hbk.out q hq).1 (by simpa using e))))
    have q4 := Lib.hid (q3.out.trans (gb_below hg4 (by omega) (by omega)))
    have z4 := hg4.size
    have HC9 : ∀ q ∈ ([(w.heap.size, 30, [.int .i64 N, .int .i64 R, .slice b n c2])] : List MB), q.1 < w.heap.size + 2 ∧ q.1 < w4.heap.size := fun q hq => by rw [List.mem_singleton.1 hq]; exact ⟨by show w.heap.size < _; omega, B4.out.lt⟩
    have HGM : ∀ (cs : List MB), (∀ q ∈ cs, q.1 < w.heap.size + 2 ∧ q.1 < w4.heap.size) → RelOk (w.heap.size + 2) g w4 (GrM g cs) := fun cs h => GrM.ok h (by omega)
    clear hr4 hg4 y2 HR3 B3 B3' HT HI q3 HW3
    have hx2 : x = 0 ∨ x = 1 := by omega
    clear y1 y3
    rcases hx2 with rfl | rfl
    · obtain ⟨bb, off, rfl, hbb, hE⟩ := HI4.out.at HN.out (k := 0) (by omega)
      have hbb := hbk.out _ rfl
      go_upto_region 4 with fail
      have HG9 := HGM _ HC9
      refine region_checked_G (D := w.heap.size + 2) (D0 := w.heap.size) _ 0 false 12 33 g (p2 + 1) 1 (GrM g [(w.heap.size, 30, [.int .i64 N, .int .i64 R, .slice (some ⟨bb, off, none⟩) n c2])]) (FM [(11, (w.heap.size, 30, [.int .i64 N, .int .i64 R, .slice (some ⟨bb, off, none⟩) n c2]))]) [(4, .rd)] [(4, .rd), (19, .any), (20, .any), (21, .any), (22, .rd), (23, .any), (24, .any), (25, .any), (26, .any), (27, .any), (28, .any), (29, .any)] [19, 20, 21, 22, 23, 24, 25, 26, 27, 28, 29] [] (XF4 N R bb off n c2 w2.heap.size) [19, 20, 21, 23, 24, 25, 26, 27, 28, 29] [0, 1, 2, 4, 5, 6, 7, 8, 9, 10, 11] rfl (by kernel_rfl) rfl XF4.stable (fun h => by cases h) ?_ HR4.out (by omega) (by omega) HG9 (FM.stable (fun x hx => by rw [List.mem_singleton.1 hx]; exact List.mem_cons_self)) (by omega) ?_ ?_
      · intro q hq
        rw [List.mem_singleton.1 hq]
        rfl
      · intro i hi o hin ho k a' W' hk hdef hfrm hdep hgr hW
        have hT' : Box W' w2.heap.size 30 [.int .i64 N, .int .i64 R, .slice (some ⟨bb, off, none⟩) n c2] := hgr.box HT4.out (by omega) (fun q hq => by rw [List.mem_singleton.1 hq]; show w2.heap.size ≠ w.heap.size; omega)
        have e5 : a'.tmps.getD 5 undef = .pointer (some ⟨w2.heap.size, 0, none⟩) := (hfrm 5 (by kernel_rfl)).trans rfl
        have e2 : a'.tmps.getD 2 undef = .pointer (some ⟨w.heap.size, 0, none⟩) := (hfrm 2 (by kernel_rfl)).trans rfl
        simp only [List.mem_cons, List.not_mem_nil, or_false] at hi
        rcases hi with rfl | rfl | rfl | rfl | rfl | rfl | rfl | rfl | rfl | rfl | rfl
        all_goals
          injection ho with ho
          subst ho
        · exact hand_val XF4.nd (fun w => GrM.rfl' w) hW rfl rfl rfl (run_ldTi _ _ _ _ w2.heap.size _ _ _ rfl e5 hT') rfl
        · exact hand_val XF4.nd (fun w => GrM.rfl' w) hW rfl rfl rfl (run_fldT _ _ _ (.tmp 5) _ rfl e5) rfl
        · have e20 : a'.tmps.getD 20 undef = .pointer (some ⟨w2.heap.size, 2, none⟩) := XHas.at (hdep 20 (by kernel_rfl)).2.2
          exact hand_val XF4.nd (fun w => GrM.rfl' w) hW rfl rfl rfl (run_ldS _ _ _ (.tmp 20) _ _ _ rfl e20 (hT'.cell 2)) rfl
        · exact hand_val XF4.nd (fun w => GrM.rfl' w) hW rfl rfl rfl (run_fldT _ _ _ (.tmp 5) _ rfl e5) rfl
        · have e23 : a'.tmps.getD 23 undef = .pointer (some ⟨w2.heap.size, 2, none⟩) := XHas.at (hdep 23 (by kernel_rfl)).2.2
          exact hand_val XF4.nd (fun w => GrM.rfl' w) hW rfl rfl rfl (run_ldS _ _ _ (.tmp 23) _ _ _ rfl e23 (hT'.cell 2)) rfl
        · have e24 : a'.tmps.getD 24 undef = .slice (some ⟨bb, off, none⟩) n c2 := XHas.at (hdep 24 (by kernel_rfl)).2.2
          exact hand_val XF4.nd (fun w => GrM.rfl' w) hW rfl rfl rfl (run_lenE _ _ _ (.tmp 24) _ n _ rfl e24) rfl
        · obtain ⟨q9, hq9, hr9⟩ := hW
          have e22 : a'.tmps.getD 22 undef = .pointer (some ⟨g, 0, none⟩) := (hdep 22 (by kernel_rfl)).1
          have e25 : a'.tmps.getD 25 undef = .int .i64 n := XHas.at (hdep 25 (by kernel_rfl)).2.2
          have hv9 : (#[Operand.tmp 22, Operand.tmp 25] : Array Operand).map a'.eval = #[.pointer (some ⟨g, 0, none⟩), .int .i64 n] := by simp only [List.map_toArray, List.map_cons, List.map_nil, Act.eval, e22, e25]
          refine hand_call XF4.nd (fun w' h => HG9.of _ _ hgr h) rfl rfl rfl (run_callL _ _ _ 55 _ _ _ rfl rfl hv9 (enters_of Try.func55 (by kernel_rfl) rfl)) ?_
          refine (c_pick g q9 n W' hr9 (by omega) (by omega) (by omega)).mono ?_
          rintro e w5 ⟨x, rfl, y1, y2, _, hr5, g5⟩
          obtain ⟨j, rfl⟩ := Int.eq_ofNat_of_zero_le y1
          exact ⟨_, rfl, ⟨j, rfl, by have := y2 (by omega); omega⟩, g5, q9 + 1, by omega, hr5⟩
        · have e21 : a'.tmps.getD 21 undef = .slice (some ⟨bb, off, none⟩) n c2 := XHas.at (hdep 21 (by kernel_rfl)).2.2
          obtain ⟨j, e26, hj⟩ : ∃ j : Nat, a'.tmps.getD 26 undef = .int .i64 j ∧ j < n := XHas.at (hdep 26 (by kernel_rfl)).2.2
          exact hand_val XF4.nd (fun w => GrM.rfl' w) hW rfl rfl rfl (run_ixE _ _ _ (.tmp 21) (.tmp 26) bb off n c2 j hj rfl e21 e26) ⟨j, rfl, hj⟩
        · obtain ⟨j, e27, hj⟩ : ∃ j : Nat, a'.tmps.getD 27 undef = .pointer (some ⟨bb, off + j * 7, none⟩) ∧ j < n := XHas.at (hdep 27 (by kernel_rfl)).2.2
          exact hand_val XF4.nd (fun w => GrM.rfl' w) hW rfl rfl rfl (run_fldE _ _ _ (.tmp 27) bb _ rfl e27) ⟨j, rfl, hj⟩
        · obtain ⟨j, e28, hj⟩ : ∃ j : Nat, a'.tmps.getD 28 undef = .pointer (some ⟨bb, off + j * 7, none⟩) ∧ j < n := XHas.at (hdep 28 (by kernel_rfl)).2.2
          exact hand_val XF4.nd (fun w => GrM.rfl' w) hW rfl rfl rfl (run_ldF _ _ _ (.tmp 28) bb _ _ rfl e28 ((hE j hj).of_block (hgr.block bb (by omega) hbb.1 (fun q hq => by rw [List.mem_singleton.1 hq]; exact hbb.2.1)))) ⟨_, rfl⟩
        · have e19 : a'.tmps.getD 19 undef = _ := XHas.at (hdep 19 (by kernel_rfl)).2.2
          obtain ⟨us, hus, hul⟩ := hgr.len (q := (w.heap.size, 30, [.int .i64 N, .int .i64 R, .slice (some ⟨bb, off, none⟩) n c2])) List.mem_cons_self B4.out rfl
          exact hand_table (q := (w.heap.size, 30, [.int .i64 N, .int .i64 R, .slice (some ⟨bb, off, none⟩) n c2])) List.mem_cons_self (fun x hx _ => List.mem_singleton.1 hx) (fun x hx _ => by rw [List.mem_singleton.1 hx]) hW (Nat.le_refl _) (by show w.heap.size ≠ g; omega) rfl rfl e2 e19 rfl hus hul (fun x hx => by rw [List.mem_singleton.1 hx]; exact hus.lt)
      · intro f w5 hf hgr hst hrd
        have e19 : f 19 = .agg #[.int .i64 N, .int .i64 R, .slice (some ⟨bb, off, none⟩) n c2] := XHas.at (hf 19 (by decide)).2.2
        obtain ⟨f5, e29⟩ : ∃ f5 : F5, f 29 = fvv f5 := XHas.at (hf 29 (by decide)).2.2
        have hBc : Box w5 w.heap.size 30 [.int .i64 N, .int .i64 R, .slice (some ⟨bb, off, none⟩) n c2] := hst 11 _ (by decide) rfl rfl _ List.mem_cons_self rfl
        have hBf : Box w5 (w.heap.size + 1) 37 [.int .i64 0, .int .i64 0, .int .i64 0, .int .i64 0, .int .i64 0] := hgr.box B4'.out (by omega) (fun q hq => by rw [List.mem_singleton.1 hq]; show w.heap.size + 1 ≠ w.heap.size; omega)
        have q4 := Lib.hid (q4.out.trans (hgr.below (L := w.heap.size) (by have := B4.out.lt; omega) (by omega) (fun q hq => by rw [List.mem_singleton.1 hq]; exact Nat.le_refl _)))
        have HI4 := Lib.hid (HI4.out.of_block hgr.size (fun q hq => hgr.block q.block (by have := (hbk.out q hq).2.2.2.1; have := HT4.out.lt; omega) (hbk.out q hq).1 (fun x hx => by rw [List.mem_singleton.1 hx]; exact (hbk.out q hq).2.1)))
        obtain ⟨x0, x1, x2, x3, x4⟩ := f5
        obtain ⟨y0, y1, y2, fy⟩ := hBc.three
        obtain ⟨z0, z1, z2, z3, z4, fz⟩ := hBf.five
        simp only [List.drop_succ_cons, List.drop_zero, putL, Act.put, List.setIfInBounds_toArray, List.set_cons_succ, List.set_cons_zero, e29, fvv]
        clear hf hgr hst hrd e19 e29 hBc hBf
        have hne9 : ¬ w.heap.size = w.heap.size + 1 := by omega
        have hne8 : ¬ w.heap.size + 1 = w.heap.size := by omega
        go_wp2
        refine bodyPost_ret (v := .tuple #[.agg #[.int .i64 N, .int .i64 R, .slice (some ⟨bb, off, none⟩) n c2], fvv (x0, x1, x2, x3, x4)]) (by simp [results, Try.results40, go_sem, fvv, y0, y1, y2, z0, z1, z2, z3, z4]) rfl ?_
        exact hret.out (x0, x1, x2, x3, x4) _ (HI4.out.of_block (by simp) (fun q hq => blk5 _ (hbk.out q hq).2.2.1 _ _ _ _ _)) (below5 q4.out (by omega) _ _ _ _ _)
    · skip
      go_upto_region 5 with fail
      have HG9 := HGM _ HC9
      refine region_checked_G (D := w.heap.size + 2) (D0 := w.heap.size) _ 0 false 4 33 g (p2 + 1) 50 (GrM g [(w.heap.size, 30, [.int .i64 N, .int .i64 R, .slice b n c2])]) (FM [(3, (w.heap.size, 30, [.int .i64 N, .int .i64 R, .slice b n c2]))]) [(4, .rd)] [(4, .rd), (30, .any), (31, .rd), (32, .any)] [30, 31, 32] [] [(30, fun v _ => v = .agg #[.int .i64 N, .int .i64 R, .slice b n c2]), (32, fun v _ => ∃ f : F5, v = fvv f)] [30, 32] [0, 2, 3] rfl (by kernel_rfl) rfl ?_ (fun h => by cases h) ?_ HR4.out (by omega) (by omega) HG9 (FM.stable (fun x hx => by rw [List.mem_singleton.1 hx]; exact List.mem_cons_self)) (by omega) ?_ ?_
      · intro q hq v w9 w9' h _
        simp only [List.mem_cons, List.not_mem_nil, or_false] at hq
        rcases hq with rfl | rfl <;> exact h
      · intro q hq
        rw [List.mem_singleton.1 hq]
        rfl
      · intro i hi o hin ho k a' W' hk hdef hfrm hdep hgr hW
        have hnd : (([(30, fun v _ => v = .agg #[.int .i64 N, .int .i64 R, .slice b n c2]), (32, fun v _ => ∃ f : F5, v = fvv f)] : List (Tmp × VP)).map (·.1)).Nodup := by show ([30, 32] : List Nat).Nodup; decide
        have hT' : Box W' w2.heap.size 30 [.int .i64 N, .int .i64 R, .slice b n c2] := hgr.box HT4.out (by omega) (fun q hq => by rw [List.mem_singleton.1 hq]; show w2.heap.size ≠ w.heap.size; omega)
        have e5 : a'.tmps.getD 5 undef = .pointer (some ⟨w2.heap.size, 0, none⟩) := (hfrm 5 (by kernel_rfl)).trans rfl
        have e2 : a'.tmps.getD 2 undef = .pointer (some ⟨w.heap.size, 0, none⟩) := (hfrm 2 (by kernel_rfl)).trans rfl
        simp only [List.mem_cons, List.not_mem_nil, or_false] at hi
        rcases hi with rfl | rfl | rfl
        all_goals
          injection ho with ho
          subst ho
        · exact hand_val hnd (fun w => GrM.rfl' w) hW rfl rfl rfl (run_ldTi _ _ _ _ w2.heap.size _ _ _ rfl e5 hT') rfl
        · obtain ⟨q9, hq9, hr9⟩ := hW
          skip
          have e31 : a'.tmps.getD 31 undef = .pointer (some ⟨g, 0, none⟩) := (hdep 31 (by kernel_rfl)).1
          have hv9 : (#[Operand.tmp 31, Operand.const (.int .i64 6)] : Array Operand).map a'.eval = #[.pointer (some ⟨g, 0, none⟩), .int .i64 6] := by simp only [List.map_toArray, List.map_cons, List.map_nil, Act.eval, e31]
          refine hand_call hnd (fun w' h => HG9.of _ _ hgr h) rfl rfl rfl (run_callL _ _ _ 80 _ _ _ rfl rfl hv9 (enters_of Try.func80 (by kernel_rfl) rfl)) ?_
          have : k = 0 ∨ k = 1 ∨ k = 2 ∨ k = 3 := by omega
          refine (s_l20Flow g q9 6 W' hr9 (by omega) (by omega) (by omega)).mono ?_
          rintro e w5 ⟨x0, x1, x2, x3, x4, rfl, ⟨p5, hp5, hr5⟩, g5⟩
          exact ⟨_, rfl, ⟨(x0, x1, x2, x3, x4), rfl⟩, g5, p5, by omega, hr5⟩
        · have e30 : a'.tmps.getD 30 undef = _ := XHas.at (hdep 30 (by kernel_rfl)).2.2
          obtain ⟨us, hus, hul⟩ := hgr.len (q := (w.heap.size, 30, [.int .i64 N, .int .i64 R, .slice b n c2])) List.mem_cons_self B4.out rfl
          exact hand_table (q := (w.heap.size, 30, [.int .i64 N, .int .i64 R, .slice b n c2])) List.mem_cons_self (fun x hx _ => List.mem_singleton.1 hx) (fun x hx _ => by rw [List.mem_singleton.1 hx]) hW (Nat.le_refl _) (by show w.heap.size ≠ g; omega) rfl rfl e2 e30 rfl hus hul (fun x hx => by rw [List.mem_singleton.1 hx]; exact hus.lt)
      · intro f w6 hf hgr hst hrd
        have e30 : f 30 = _ := XHas.at (hf 30 (by decide)).2.2
        obtain ⟨f5, e32⟩ : ∃ f5 : F5, f 32 = fvv f5 := XHas.at (hf 32 (by decide)).2.2
        have e31 : f 31 = .pointer (some ⟨g, 0, none⟩) := (hf 31 (by decide)).1
        have hBc : Box w6 w.heap.size 30 [.int .i64 N, .int .i64 R, .slice b n c2] := hst 3 _ (by decide) rfl rfl _ List.mem_cons_self rfl
        have hBf : Box w6 (w.heap.size + 1) 37 [.int .i64 0, .int .i64 0, .int .i64 0, .int .i64 0, .int .i64 0] := hgr.box B4'.out (by omega) (fun q hq => by rw [List.mem_singleton.1 hq]; show w.heap.size + 1 ≠ w.heap.size; omega)
        have q5 := Lib.hid (q4.out.trans (hgr.below (L := w.heap.size) (by have := B4.out.lt; omega) (by omega) (fun q hq => by rw [List.mem_singleton.1 hq]; exact Nat.le_refl _)))
        have HI5 := Lib.hid (HI4.out.of_block hgr.size (fun q hq => hgr.block q.block (by have := (hbk.out q hq).2.2.2.1; have := HT4.out.lt; omega) (hbk.out q hq).1 (fun x hx => by rw [List.mem_singleton.1 hx]; exact (hbk.out q hq).2.1)))
        obtain ⟨x0, x1, x2, x3, x4⟩ := f5
        obtain ⟨y0, y1, y2, fy⟩ := hBc.three
        obtain ⟨z0, z1, z2, z3, z4, fz⟩ := hBf.five
        simp only [List.drop_succ_cons, List.drop_zero, putL, Act.put, List.setIfInBounds_toArray, List.set_cons_succ, List.set_cons_zero, e30, e31, e32, fvv]
        clear hf hgr hst hrd e30 e31 e32 hBc hBf
        have hne9 : ¬ w.heap.size = w.heap.size + 1 := by omega
        have hne8 : ¬ w.heap.size + 1 = w.heap.size := by omega
        go_wp2
        refine bodyPost_ret (v := .tuple #[.agg #[.int .i64 N, .int .i64 R, .slice b n c2], fvv (x0, x1, x2, x3, x4)]) (by simp [results, Try.results40, go_sem, fvv, y0, y1, y2, z0, z1, z2, z3, z4]) rfl ?_
        exact hret.out (x0, x1, x2, x3, x4) _ (HI5.out.of_block (by simp) (fun q hq => blk5 _ (hbk.out q hq).2.2.1 _ _ _ _ _)) (below5 q5.out (by omega) _ _ _ _ _)
theorem Code.wide {D' : Nat} {w : World} {a : Option Addr} {len : Nat} {D : Nat} (h : Code D w a len) (hD : D ≤ D') : Code D' w a len :=
  h.imp id fun ⟨b, off, ha, hlt, hc⟩ => ⟨b, off, ha, by omega, hc⟩
set_option maxHeartbeats 1000000 in
theorem s_DrawDropFlow (a : Option Addr) (len cap : Nat) (w : World) (hcl : len ≤ cap) (hcap : cap ≤ maxLen) (h : Code w.heap.size w a len) :
    Calls Try.prog 47 #[.slice a len cap] w (RetDFn w) := by
  have HC := Lib.hid h
  clear h
  go_enter Try.func47, Try.ntmps47
  go_wp2_with fail
  refine (s_DrawFindFlow a len cap _ hcl hcap ((HC.out.below (((Below.refl _ _).alloc (Nat.le_refl _) _).alloc (by simp only [World.size_alloc]; omega) _)).wide (by simp only [World.size_alloc]; omega))).mono ?_
  rintro e w2 ⟨N, R, b, c2, es, f, rfl, hx, hcp, hnn, hbk, hI, hb2⟩
  obtain ⟨x0, x1, x2, x3, x4⟩ := f
  have B1 : Box w2 w.heap.size 30 [.int .i64 0, .int .i64 0, .slice none 0 0] := ((Box.new w 30 [.int .i64 0, .int .i64 0, .slice none 0 0]).alloc _).keep hb2
  have B2 : Box w2 (w.heap.size + 1) 37 [.int .i64 0, .int .i64 0, .int .i64 0, .int .i64 0, .int .i64 0] := (Box.new2 (w.alloc _) 37 [.int .i64 0, .int .i64 0, .int .i64 0, .int .i64 0, .int .i64 0] (w.heap.size + 1) (by simp only [World.size_alloc])).keep hb2
  simp only [World.size_alloc] at hbk
  have q2 := Lib.hid ((((Below.refl w.heap.size w).alloc (Nat.le_refl _) _).alloc (by simp only [World.size_alloc]; omega) _).trans (hb2.mono (by simp only [World.size_alloc]; omega)))
  have HI := Lib.hid hI
  have HBK := Lib.hid hbk
  have HNN := Lib.hid hnn
  clear hI hb2 hbk hnn
  obtain ⟨y0, y1, y2, fy⟩ := B1.three
  obtain ⟨z0, z1, z2, z3, z4, fz⟩ := B2.five
  unfold fvv
  have hne9 : ¬ w.heap.size = w.heap.size + 1 := by omega
  have hne8 : ¬ w.heap.size + 1 = w.heap.size := by omega
  go_wp2
  refine bodyPost_ret (v := .tuple #[.agg #[.int .i64 N, .int .i64 R, .slice b es.length c2], fvv (x0, x1, x2, x3, x4)]) (by simp [results, Try.results47, go_sem, fvv, y0, y1, y2, z0, z1, z2, z3, z4]) rfl ?_
  refine ⟨N, R, b, c2, es, (x0, x1, x2, x3, x4), rfl, hx, hcp, HNN.out, fun q hq => by have := HBK.out q hq; omega, ?_, below5 (((q2.out.setCell (Nat.le_refl _) _).setCell (Nat.le_refl _) _).setCell (Nat.le_refl _) _) (by omega) _ _ _ _ _⟩
  refine HI.out.of_block (by simp) (fun q hq => ?_)
  have h9 := HBK.out q hq
  refine (blk5 _ (by omega) _ _ _ _ _).trans ?_
  exact (heap_setCell_other _ ⟨w.heap.size, 2, none⟩ _ _ (by show q.block ≠ w.heap.size; omega)).trans ((heap_setCell_other _ ⟨w.heap.size, 1, none⟩ _ _ (by show q.block ≠ w.heap.size; omega)).trans (heap_setCell_other _ ⟨w.heap.size, 0, none⟩ _ _ (by show q.block ≠ w.heap.size; omega)))
end Go.Proofs.Ytdkdfehlmphikaa
