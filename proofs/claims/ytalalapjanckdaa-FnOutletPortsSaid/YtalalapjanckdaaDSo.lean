/- The draw of the laws SendOut and OutletPorts. No condition. -/
import Derived.Test.YtalalapjanckdaaDOu
import Derived.Test.YtalalapjanckdaaMG
namespace Go.Proofs.Ytalalapjanckdaa
open Go.RowKit
/-- The store of an outlet into a box. -/
theorem st_outl (o : Oper) (ρ : Operand → Value) (w : World) (x y : Operand) (b : Nat) (N R : Int) (q : Option Addr) (c n : Nat) (us : List Value) (ho : o.op = .store 25 x y) (hx : ρ x = .pointer (some ⟨b, 0, none⟩)) (hy : ρ y = .agg #[.int .i64 N, .int .i64 R, .slice q n c]) (hb : Box w b 25 us) (hl : us.length = 3) :
    ∃ w', (execOp ρ o).run Try.prog w = .ok .skip w' ∧ Box w' b 25 [.int .i64 N, .int .i64 R, .slice q n c] ∧ w.grownBy w' (some b) := by
  obtain ⟨u0, u1, u2, rfl⟩ : ∃ u0 u1 u2, us = [u0, u1, u2] := by
    match us, hl with
    | [a, b, c], _ => exact ⟨a, b, c, rfl⟩
  obtain ⟨c0, c1, c2, cf⟩ := hb.three
  refine ⟨((w.setCell ⟨b, 0, none⟩ (.int .i64 N)).setCell ⟨b, 1, none⟩ (.int .i64 R)).setCell ⟨b, 2, none⟩ (.slice q n c), ?_, ((hb.set 0 _).set 1 _).set 2 _, grownBy_tr (grownBy_tr (gb_setp _ _ _) (gb_setp _ ⟨b, 1, none⟩ _)) (gb_setp _ ⟨b, 2, none⟩ _)⟩
  simp [execOp, ho, hx, hy, c0, c1, c2, cf, go_sem]
theorem blk5 (w : World) {k j : Nat} (h : j ≠ k) (u0 u1 u2 u3 u4 : Value) : (((((w.setCell ⟨k, 0, none⟩ u0).setCell ⟨k, 1, none⟩ u1).setCell ⟨k, 2, none⟩ u2).setCell ⟨k, 3, none⟩ u3).setCell ⟨k, 4, none⟩ u4).heap[j]? = w.heap[j]? :=
  (heap_setCell_other _ ⟨k, 4, none⟩ j u4 h).trans ((heap_setCell_other _ ⟨k, 3, none⟩ j u3 h).trans ((heap_setCell_other _ ⟨k, 2, none⟩ j u2 h).trans ((heap_setCell_other _ ⟨k, 1, none⟩ j u1 h).trans (heap_setCell_other _ ⟨k, 0, none⟩ j u0 h))))
theorem below5 {B : Nat} {w0 w : World} (hb : Below B w0 w) {k : Nat} (h : B ≤ k) (u0 u1 u2 u3 u4 : Value) : Below B w0 (((((w.setCell ⟨k, 0, none⟩ u0).setCell ⟨k, 1, none⟩ u1).setCell ⟨k, 2, none⟩ u2).setCell ⟨k, 3, none⟩ u3).setCell ⟨k, 4, none⟩ u4) :=
  ((((hb.setCell h _).setCell h _).setCell h _).setCell h _).setCell h _
/-- .. inside a drawn region. -/
theorem hand_outl {D D0 B : Nat} {cs : List MB} {st : List (Nat × MB)} {tys : List (Tmp × Ty)} {src : List (Tmp × Tmp)} {X : List (Tmp × (Value → World → Prop))} {g p c k i : Nat} {a0 a : Act} {w : World} {Q : Exit → Act → World → Prop} {o : Oper} {q : MB} {s d : Tmp} {N R : Int} {b : Option Addr} {n cap : Nat} {us : List Value}
    (hq : q ∈ cs) (hdist : ∀ x ∈ cs, x.1 = q.1 → x = q) (hst : ∀ x ∈ st, x.1 = i → x.2 = q) (hR : ∃ p', p' ≤ p + c * k ∧ Rd D0 w g p') (hD : D0 ≤ q.1) (hqg : q.1 ≠ g) (hd : o.dst = none) (ho : o.op = .store 25 (.tmp s) (.tmp d))
    (hx : a.tmps.getD s undef = .pointer (some ⟨q.1, 0, none⟩)) (hy : a.tmps.getD d undef = .agg #[.int .i64 N, .int .i64 R, .slice b n cap]) (he : q.2 = (25, [.int .i64 N, .int .i64 R, .slice b n cap])) (hus : Box w q.1 q.2.1 us) (hl : us.length = q.2.2.length) (hlt : ∀ x ∈ cs, x.1 < w.heap.size) :
    Oper.wp Try.prog o a w (PostM (GrM g cs) (FM st) tys src X D D0 B g p c k i a0 o a w) Q := by
  obtain ⟨q1, q2⟩ := q
  simp only at he
  subst he
  obtain ⟨W2, hr2, hb2, hg2⟩ := st_outl o a.eval w (.tmp s) (.tmp d) q1 N R b cap n us ho hx hy hus hl
  exact hand_store hq hdist hst hR hD hqg hd hr2 hb2 hg2 hlt
theorem Code.wide {D' : Nat} {w : World} {a : Option Addr} {len : Nat} {D : Nat} (h : Code D w a len) (hD : D ≤ D') : Code D' w a len :=
  h.imp id fun ⟨b, off, ha, hlt, hc⟩ => ⟨b, off, ha, by omega, hc⟩
theorem run_lenF (o : Oper) (ρ : Operand → Value) (w : World) (x : Operand) (a : Option Addr) (n c : Nat) (ho : o.op = .call { callee := .builtin .len, args := #[x], argTypes := #[23] }) (hx : ρ x = .slice a n c) : (execOp ρ o).run Try.prog w = .ok (.value (.int .i64 n)) w := by
  simp [execOp, ho, hx, Builtin.len_, go_sem]
theorem run_ldFw (o : Oper) (ρ : Operand → Value) (w : World) (x : Operand) (b off : Nat) (f : F5) (ho : o.op = .load 27 x) (hx : ρ x = .pointer (some ⟨b, off, none⟩)) (h : FlwAt w b off f) : (execOp ρ o).run Try.prog w = .ok (.value (fvv f)) w := by
  obtain ⟨c0, c1, c2, c3, c4⟩ := h
  simp [execOp, ho, hx, c0, c1, c2, c3, c4, fvv, go_sem]
theorem FlwAt.of_block {w w' : World} {b off : Nat} {e : F5} (h : FlwAt w b off e) (hb : w'.heap[b]? = w.heap[b]?) : FlwAt w' b off e := by
  obtain ⟨c0, c1, c2, c3, c4⟩ := h
  exact ⟨(World.cell?_of_block hb).trans c0, (World.cell?_of_block hb).trans c1, (World.cell?_of_block hb).trans c2, (World.cell?_of_block hb).trans c3, (World.cell?_of_block hb).trans c4⟩
theorem Flws.of_block {w w' : World} {a : Option Addr} {es : List F5} (h : Flws w a es) (hs : w.heap.size ≤ w'.heap.size) (hb : ∀ q, a = some q → w'.heap[q.block]? = w.heap[q.block]?) : Flws w' a es := by
  rcases h with h | ⟨b', off, ha, hlt, hc⟩
  · exact .inl h
  · exact .inr ⟨b', off, ha, Nat.lt_of_lt_of_le hlt hs, fun i hi => (World.cell?_of_block (a := ⟨b', off + i, none⟩) (hb ⟨b', off, none⟩ ha)).trans (hc i hi)⟩
/-- An outlet and a flow are drawn; nothing that was there has turned. -/
def RetDSo (w : World) (e : Ending) (w' : World) : Prop :=
  ∃ (N R : Int) (a : Option Addr) (cap : Nat) (fs : List F5) (f : F5), e = .returned (.tuple #[.agg #[.int .i64 N, .int .i64 R, .slice a fs.length cap], fvv f]) ∧ 1 ≤ fs.length ∧ fs.length ≤ 9 ∧ fs.length ≤ cap ∧ (a = none → fs.length = 0 ∧ cap = 0) ∧ (∀ q, a = some q → w.heap.size ≤ q.block) ∧ Flws w' a fs ∧ Below w.heap.size w w'
def XF4 (N R : Int) (b off n cap b5 : Nat) : List (Tmp × VP) :=
  [(13, fun v _ => v = .agg #[.int .i64 N, .int .i64 R, .slice (some ⟨b, off, none⟩) n cap]), (14, fun v _ => v = .pointer (some ⟨b5, 2, none⟩)), (15, fun v _ => v = .slice (some ⟨b, off, none⟩) n cap), (17, fun v _ => v = .pointer (some ⟨b5, 2, none⟩)), (18, fun v _ => v = .slice (some ⟨b, off, none⟩) n cap), (19, fun v _ => v = .int .i64 n),
   (20, fun v _ => ∃ j : Nat, v = .int .i64 j ∧ j < n), (21, fun v _ => ∃ j : Nat, v = .pointer (some ⟨b, off + j * 5, none⟩) ∧ j < n), (22, fun v _ => ∃ f : F5, v = fvv f)]
theorem XF4.stable {N R : Int} {b off n cap b5 : Nat} {G : World → World → Prop} : ∀ q ∈ XF4 N R b off n cap b5, ∀ v w w', q.2 v w → G w w' → q.2 v w' := by
  intro q hq v w w' h hg
  simp only [XF4, List.mem_cons, List.not_mem_nil, or_false] at hq
  rcases hq with rfl | rfl | rfl | rfl | rfl | rfl | rfl | rfl | rfl <;> exact h
theorem XF4.nd {N R : Int} {b off n cap b5 : Nat} : ((XF4 N R b off n cap b5).map (·.1)).Nodup := by
  show ([13, 14, 15, 17, 18, 19, 20, 21, 22] : List Nat).Nodup
  decide
set_option maxHeartbeats 4000000 in
set_option maxRecDepth 100000 in
theorem s_DrawSendOut (a : Option Addr) (len cap : Nat) (w : World) (hcl : len ≤ cap) (hcap : cap ≤ maxLen) (h : Code w.heap.size w a len) :
    Calls Try.prog 11 #[.slice a len cap] w (RetDSo w) := by
  have HC := Lib.hid h
  clear h
  go_enter Try.func11, Try.ntmps11
  go_wp2_with fail
  refine (c_open (D := w.heap.size) a len cap _ hcl hcap (by simp only [World.size_alloc]; omega) (HC.out.below (((Below.refl _ _).alloc (Nat.le_refl _) _).alloc (by simp) _))).mono ?_
  rintro e w1 ⟨g, rfl, hg, hr, hb⟩
  simp only [World.size_alloc] at hg
  have HR := Lib.hid hr
  have hz := hb.size
  simp only [World.size_alloc] at hz
  have q1 : Below w.heap.size w w1 := (((Below.refl _ _).alloc (Nat.le_refl _) _).alloc (by simp) _).trans (hb.mono (by simp only [World.size_alloc]; omega))
  have B1 : Box w1 w.heap.size 25 [.int .i64 0, .int .i64 0, .slice none 0 0] := ((Box.new w 25 [.int .i64 0, .int .i64 0, .slice none 0 0]).alloc _).keep hb
  have B1' : Box w1 (w.heap.size + 1) 27 [.int .i64 0, .int .i64 0, .int .i64 0, .int .i64 0, .int .i64 0] := (Box.new2 (w.alloc _) 27 [.int .i64 0, .int .i64 0, .int .i64 0, .int .i64 0, .int .i64 0] (w.heap.size + 1) (by simp only [World.size_alloc])).keep hb
  clear hr hb
  go_wp2_with fail
  refine (s_l20Outlet g 0 9 _ HR.out (by omega) (by omega) (by omega)).mono ?_
  rintro e w2 ⟨N, R, b, c2, fs, rfl, hx1, hx9, ho2, ⟨p2, hp2, hr2⟩, hg2⟩
  obtain ⟨w3, hw3, hb3, hz3, hx3⟩ : ∃ W, W = w2.alloc (.cells #[.int .i64 N, .int .i64 R, .slice b fs.length c2] 25) ∧ Below w2.heap.size w2 W ∧ W.heap.size = w2.heap.size + 1 ∧ Box W w2.heap.size 25 [.int .i64 N, .int .i64 R, .slice b fs.length c2] := head1 w2 25 _
  have hgl2 := hr2.lt
  have z2 := hg2.size
  have HW3 := Lib.hid hw3
  have B3 := Lib.hid ((B1.by hg2 (by omega)).keep hb3)
  have B3' := Lib.hid ((B1'.by hg2 (by omega)).keep hb3)
  have q3 := Lib.hid ((q1.trans (gb_below hg2 (by omega) (by omega))).trans (hb3.mono (by omega)))
  have HR3 := Lib.hid (hr2.keep (below_grown hb3))
  have HT := Lib.hid hx3
  have HI := Lib.hid ((FlwRow.flws ho2).below hb3)
  have z3 : w2.heap.size + 1 ≤ w3.heap.size := by omega
  have hcp := (row_cap ho2).1
  have hnn := Lib.hid (own_none ho2)
  have hbk : Hid (∀ q, b = some q → q.block ≠ g ∧ q.block ≠ w.heap.size ∧ q.block ≠ w.heap.size + 1 ∧ q.block < w2.heap.size ∧ w.heap.size ≤ q.block) := Lib.hid (fun q hq => by
    have hlt := ho2.lt q.block (by rw [hq]; rfl)
    have hg1 := HR.out.lt
    refine ⟨by omega, by omega, by omega, by omega, by omega⟩)
  clear q1 B1 B1' hg2 hr2 hw3 hb3 hz3 hx3 ho2
  obtain ⟨n, hn⟩ : ∃ n, fs.length = n := ⟨_, rfl⟩
  have hret : Hid (∀ (f : F5) (w' : World), Flws w' b fs → Below w.heap.size w w' → RetDSo w (.returned (.tuple #[.agg #[.int .i64 N, .int .i64 R, .slice b n c2], fvv f])) w') := Lib.hid (fun f w' h1 h2 => by
    rw [← hn]
    exact ⟨N, R, b, c2, fs, f, rfl, hx1, hx9, hcp, hnn.out, fun q hq => (hbk.out q hq).2.2.2.2, h1, h2⟩)
  have hcp' : n ≤ c2 := hn ▸ hcp
  rw [hn] at HW3 HT ⊢
  have HN := Lib.hid hn
  clear hn
  have hn1 : 1 ≤ n := by have := HN.out; omega
  have hn9 : n ≤ 9 := by have := HN.out; omega
  go_upto_region 3 with fail
  rw [← HW3.out]
  go_wp2_with fail
  refine (c_pick g p2 3 _ HR3.out (by omega) (by omega) (by omega)).mono ?_
  rintro e w4 ⟨x, rfl, y1, y2, _, hr4, hg4⟩
  have y3 := y2 (by omega)
  have HR4 := Lib.hid hr4
  have B4 := Lib.hid (B3.out.by hg4 (by omega))
  have B4' := Lib.hid (B3'.out.by hg4 (by omega))
  have HT4 := Lib.hid (HT.out.by hg4 (by omega))
  have HI4 := Lib.hid (HI.out.of_block hg4.size (fun q hq => hg4.block q.block (by have := (hbk.out q hq).2.2.2.1; omega) (fun e => (hbk.out q hq).1 (by simpa using e))))
  have q4 := Lib.hid (q3.out.trans (gb_below hg4 (by omega) (by omega)))
  have z4 := hg4.size
  have HC9 : ∀ q ∈ ([(w.heap.size, 25, [.int .i64 N, .int .i64 R, .slice b n c2])] : List MB), q.1 < w.heap.size + 2 ∧ q.1 < w4.heap.size := fun q hq => by rw [List.mem_singleton.1 hq]; exact ⟨by show w.heap.size < _; omega, B4.out.lt⟩
  have HGM : ∀ (cs : List MB), (∀ q ∈ cs, q.1 < w.heap.size + 2 ∧ q.1 < w4.heap.size) → RelOk (w.heap.size + 2) g w4 (GrM g cs) := fun cs h => GrM.ok h (by omega)
  clear hr4 hg4 y2 HR3 B3 B3' HT HI q3 HW3
  by_cases hx0 : x = 0
  · subst hx0
    clear y1 y3
    obtain ⟨bb, off, rfl, hbl, hE⟩ := HI4.out.at HN.out (k := 0) (by omega)
    have hbb := hbk.out _ rfl
    go_upto_region 4 with fail
    have HG9 := HGM _ HC9
    refine region_checked_G (D := w.heap.size + 2) (D0 := w.heap.size) _ 0 false 11 26 g (p2 + 1) 1 (GrM g [(w.heap.size, 25, [.int .i64 N, .int .i64 R, .slice (some ⟨bb, off, none⟩) n c2])]) (FM [(10, (w.heap.size, 25, [.int .i64 N, .int .i64 R, .slice (some ⟨bb, off, none⟩) n c2]))]) [(4, .rd)] [(4, .rd), (13, .any), (14, .any), (15, .any), (16, .rd), (17, .any), (18, .any), (19, .any), (20, .any), (21, .any), (22, .any)] [13, 14, 15, 16, 17, 18, 19, 20, 21, 22] [] (XF4 N R bb off n c2 w2.heap.size) [13, 14, 15, 17, 18, 19, 20, 21, 22] [0, 1, 2, 4, 5, 6, 7, 8, 9, 10] rfl (by kernel_rfl) rfl XF4.stable (fun h => by cases h) ?_ HR4.out (by omega) (by omega) HG9 (FM.stable (fun x hx => by rw [List.mem_singleton.1 hx]; exact List.mem_cons_self)) (by omega) ?_ ?_
    · intro q hq
      rw [List.mem_singleton.1 hq]
      rfl
    · intro i hi o hin ho k a' W' hk hdef hfrm hdep hgr hW
      have hT' : Box W' w2.heap.size 25 [.int .i64 N, .int .i64 R, .slice (some ⟨bb, off, none⟩) n c2] := hgr.box HT4.out (by omega) (fun q hq => by rw [List.mem_singleton.1 hq]; show w2.heap.size ≠ w.heap.size; omega)
      have e5 : a'.tmps.getD 5 undef = .pointer (some ⟨w2.heap.size, 0, none⟩) := (hfrm 5 (by kernel_rfl)).trans rfl
      have e2 : a'.tmps.getD 2 undef = .pointer (some ⟨w.heap.size, 0, none⟩) := (hfrm 2 (by kernel_rfl)).trans rfl
      simp only [List.mem_cons, List.not_mem_nil, or_false] at hi
      rcases hi with rfl | rfl | rfl | rfl | rfl | rfl | rfl | rfl | rfl | rfl
      all_goals
        injection ho with ho
        subst ho
      · exact hand_val XF4.nd (fun w => GrM.rfl' w) hW rfl rfl rfl (run_ldOi _ _ _ (.tmp 5) w2.heap.size _ _ _ rfl e5 hT') rfl
      · exact hand_val XF4.nd (fun w => GrM.rfl' w) hW rfl rfl rfl (run_faO _ _ _ (.tmp 5) _ rfl e5) rfl
      · have e14 : a'.tmps.getD 14 undef = .pointer (some ⟨w2.heap.size, 2, none⟩) := XHas.at (hdep 14 (by kernel_rfl)).2.2
        exact hand_val XF4.nd (fun w => GrM.rfl' w) hW rfl rfl rfl (run_ldOs _ _ _ (.tmp 14) _ _ _ rfl e14 (hT'.cell 2)) rfl
      · exact hand_val XF4.nd (fun w => GrM.rfl' w) hW rfl rfl rfl (run_faO _ _ _ (.tmp 5) _ rfl e5) rfl
      · have e17 : a'.tmps.getD 17 undef = .pointer (some ⟨w2.heap.size, 2, none⟩) := XHas.at (hdep 17 (by kernel_rfl)).2.2
        exact hand_val XF4.nd (fun w => GrM.rfl' w) hW rfl rfl rfl (run_ldOs _ _ _ (.tmp 17) _ _ _ rfl e17 (hT'.cell 2)) rfl
      · have e18 : a'.tmps.getD 18 undef = .slice (some ⟨bb, off, none⟩) n c2 := XHas.at (hdep 18 (by kernel_rfl)).2.2
        exact hand_val XF4.nd (fun w => GrM.rfl' w) hW rfl rfl rfl (run_lenF _ _ _ (.tmp 18) _ n _ rfl e18) rfl
      · obtain ⟨q9, hq9, hr9⟩ := hW
        have e16 : a'.tmps.getD 16 undef = .pointer (some ⟨g, 0, none⟩) := (hdep 16 (by kernel_rfl)).1
        have e19 : a'.tmps.getD 19 undef = .int .i64 n := XHas.at (hdep 19 (by kernel_rfl)).2.2
        have hv9 : (#[Operand.tmp 16, Operand.tmp 19] : Array Operand).map a'.eval = #[.pointer (some ⟨g, 0, none⟩), .int .i64 n] := by simp only [List.map_toArray, List.map_cons, List.map_nil, Act.eval, e16, e19]
        refine hand_call XF4.nd (fun w' h => HG9.of _ _ hgr h) rfl rfl rfl (run_callL _ _ _ 48 _ _ _ rfl rfl hv9 (enters_of Try.func48 (by kernel_rfl) rfl)) ?_
        refine (c_pick g q9 n W' hr9 (by omega) (by omega) (by omega)).mono ?_
        rintro e w5 ⟨x, rfl, y1, y2, _, hr5, g5⟩
        obtain ⟨j, rfl⟩ := Int.eq_ofNat_of_zero_le y1
        exact ⟨_, rfl, ⟨j, rfl, by have := y2 (by omega); omega⟩, g5, q9 + 1, by omega, hr5⟩
      · have e15 : a'.tmps.getD 15 undef = .slice (some ⟨bb, off, none⟩) n c2 := XHas.at (hdep 15 (by kernel_rfl)).2.2
        obtain ⟨j, e20, hj⟩ : ∃ j : Nat, a'.tmps.getD 20 undef = .int .i64 j ∧ j < n := XHas.at (hdep 20 (by kernel_rfl)).2.2
        exact hand_val XF4.nd (fun w => GrM.rfl' w) hW rfl rfl rfl (run_ixF _ _ _ (.tmp 15) (.tmp 20) bb off n c2 j hj rfl e15 e20) ⟨j, rfl, hj⟩
      · obtain ⟨j, e21, hj⟩ : ∃ j : Nat, a'.tmps.getD 21 undef = .pointer (some ⟨bb, off + j * 5, none⟩) ∧ j < n := XHas.at (hdep 21 (by kernel_rfl)).2.2
        exact hand_val XF4.nd (fun w => GrM.rfl' w) hW rfl rfl rfl (run_ldFw _ _ _ (.tmp 21) bb _ _ rfl e21 ((hE j hj).of_block (hgr.block bb (by omega) hbb.1 (fun q hq => by rw [List.mem_singleton.1 hq]; exact hbb.2.1)))) ⟨_, rfl⟩
      · have e13 : a'.tmps.getD 13 undef = _ := XHas.at (hdep 13 (by kernel_rfl)).2.2
        obtain ⟨us, hus, hul⟩ := hgr.len (q := (w.heap.size, 25, [.int .i64 N, .int .i64 R, .slice (some ⟨bb, off, none⟩) n c2])) List.mem_cons_self B4.out rfl
        exact hand_outl (q := (w.heap.size, 25, [.int .i64 N, .int .i64 R, .slice (some ⟨bb, off, none⟩) n c2])) List.mem_cons_self (fun x hx _ => List.mem_singleton.1 hx) (fun x hx _ => by rw [List.mem_singleton.1 hx]) hW (Nat.le_refl _) (by show w.heap.size ≠ g; omega) rfl rfl e2 e13 rfl hus hul (fun x hx => by rw [List.mem_singleton.1 hx]; exact hus.lt)
    · intro f w6 hf hgr hst hrd
      have e13 : f 13 = .agg #[.int .i64 N, .int .i64 R, .slice (some ⟨bb, off, none⟩) n c2] := XHas.at (hf 13 (by decide)).2.2
      obtain ⟨f5, e22⟩ : ∃ f5 : F5, f 22 = fvv f5 := XHas.at (hf 22 (by decide)).2.2
      have hBc : Box w6 w.heap.size 25 [.int .i64 N, .int .i64 R, .slice (some ⟨bb, off, none⟩) n c2] := hst 10 _ (by decide) rfl rfl _ List.mem_cons_self rfl
      have hBf : Box w6 (w.heap.size + 1) 27 [.int .i64 0, .int .i64 0, .int .i64 0, .int .i64 0, .int .i64 0] := hgr.box B4'.out (by omega) (fun q hq => by rw [List.mem_singleton.1 hq]; show w.heap.size + 1 ≠ w.heap.size; omega)
      have q5 := Lib.hid (q4.out.trans (hgr.below (L := w.heap.size) (by have := B4.out.lt; omega) (by omega) (fun q hq => by rw [List.mem_singleton.1 hq]; exact Nat.le_refl _)))
      have HI5 := Lib.hid (HI4.out.of_block hgr.size (fun q hq => hgr.block q.block (by have := (hbk.out q hq).2.2.2.1; have := HT4.out.lt; omega) (hbk.out q hq).1 (fun x hx => by rw [List.mem_singleton.1 hx]; exact (hbk.out q hq).2.1)))
      obtain ⟨x0, x1, x2, x3, x4⟩ := f5
      obtain ⟨y0, y1, y2, fy⟩ := hBc.three
      obtain ⟨z0, z1, z2, z3, z4, fz⟩ := hBf.five
      simp only [List.drop_succ_cons, List.drop_zero, putL, Act.put, List.setIfInBounds_toArray, List.set_cons_succ, List.set_cons_zero, e22, fvv]
      clear hf hgr hst hrd e22 hBc hBf e13
      have hne9 : ¬ w.heap.size = w.heap.size + 1 := by omega
      have hne8 : ¬ w.heap.size + 1 = w.heap.size := by omega
      go_wp2
      refine bodyPost_ret (v := .tuple #[.agg #[.int .i64 N, .int .i64 R, .slice (some ⟨bb, off, none⟩) n c2], fvv (x0, x1, x2, x3, x4)]) (by simp [results, Try.results11, go_sem, fvv, y0, y1, y2, z0, z1, z2, z3, z4]) rfl ?_
      exact hret.out (x0, x1, x2, x3, x4) _ (HI5.out.of_block (by simp) (fun q hq => blk5 _ (hbk.out q hq).2.2.1 _ _ _ _ _)) (below5 q5.out (by omega) _ _ _ _ _)
  · skip
    go_upto_region 5 with fail
    have HG9 := HGM _ HC9
    refine region_checked_G (D := w.heap.size + 2) (D0 := w.heap.size) _ 0 false 4 26 g (p2 + 1) 50 (GrM g [(w.heap.size, 25, [.int .i64 N, .int .i64 R, .slice b n c2])]) (FM [(3, (w.heap.size, 25, [.int .i64 N, .int .i64 R, .slice b n c2]))]) [(4, .rd)] [(4, .rd), (23, .any), (24, .rd), (25, .any)] [23, 24, 25] [] [(23, fun v _ => v = .agg #[.int .i64 N, .int .i64 R, .slice b n c2]), (25, fun v _ => ∃ f : F5, v = fvv f)] [23, 25] [0, 2, 3] rfl (by kernel_rfl) rfl ?_ (fun h => by cases h) ?_ HR4.out (by omega) (by omega) HG9 (FM.stable (fun x hx => by rw [List.mem_singleton.1 hx]; exact List.mem_cons_self)) (by omega) ?_ ?_
    · intro q hq v w9 w9' h _
      simp only [List.mem_cons, List.not_mem_nil, or_false] at hq
      rcases hq with rfl | rfl <;> exact h
    · intro q hq
      rw [List.mem_singleton.1 hq]
      rfl
    · intro i hi o hin ho k a' W' hk hdef hfrm hdep hgr hW
      have hnd : (([(23, fun v _ => v = .agg #[.int .i64 N, .int .i64 R, .slice b n c2]), (25, fun v _ => ∃ f : F5, v = fvv f)] : List (Tmp × VP)).map (·.1)).Nodup := by show ([23, 25] : List Nat).Nodup; decide
      have hT' : Box W' w2.heap.size 25 [.int .i64 N, .int .i64 R, .slice b n c2] := hgr.box HT4.out (by omega) (fun q hq => by rw [List.mem_singleton.1 hq]; show w2.heap.size ≠ w.heap.size; omega)
      have e5 : a'.tmps.getD 5 undef = .pointer (some ⟨w2.heap.size, 0, none⟩) := (hfrm 5 (by kernel_rfl)).trans rfl
      have e2 : a'.tmps.getD 2 undef = .pointer (some ⟨w.heap.size, 0, none⟩) := (hfrm 2 (by kernel_rfl)).trans rfl
      simp only [List.mem_cons, List.not_mem_nil, or_false] at hi
      rcases hi with rfl | rfl | rfl
      all_goals
        injection ho with ho
        subst ho
      · exact hand_val hnd (fun w => GrM.rfl' w) hW rfl rfl rfl (run_ldOi _ _ _ (.tmp 5) w2.heap.size _ _ _ rfl e5 hT') rfl
      · obtain ⟨q9, hq9, hr9⟩ := hW
        have e24 : a'.tmps.getD 24 undef = .pointer (some ⟨g, 0, none⟩) := (hdep 24 (by kernel_rfl)).1
        have hv9 : (#[Operand.tmp 24, Operand.const (.int .i64 9)] : Array Operand).map a'.eval = #[.pointer (some ⟨g, 0, none⟩), .int .i64 9] := by simp only [List.map_toArray, List.map_cons, List.map_nil, Act.eval, e24]
        refine hand_call hnd (fun w' h => HG9.of _ _ hgr h) rfl rfl rfl (run_callL _ _ _ 49 _ _ _ rfl rfl hv9 (enters_of Try.func49 (by kernel_rfl) rfl)) ?_
        have : k = 0 ∨ k = 1 ∨ k = 2 ∨ k = 3 := by omega
        refine (s_l20Flow g q9 9 W' hr9 (by omega) (by omega) (by omega)).mono ?_
        rintro e w5 ⟨x0, x1, x2, x3, x4, rfl, ⟨p5, hp5, hr5⟩, g5⟩
        exact ⟨_, rfl, ⟨(x0, x1, x2, x3, x4), rfl⟩, g5, p5, by omega, hr5⟩
      · have e23 : a'.tmps.getD 23 undef = _ := XHas.at (hdep 23 (by kernel_rfl)).2.2
        obtain ⟨us, hus, hul⟩ := hgr.len (q := (w.heap.size, 25, [.int .i64 N, .int .i64 R, .slice b n c2])) List.mem_cons_self B4.out rfl
        exact hand_outl (q := (w.heap.size, 25, [.int .i64 N, .int .i64 R, .slice b n c2])) List.mem_cons_self (fun x hx _ => List.mem_singleton.1 hx) (fun x hx _ => by rw [List.mem_singleton.1 hx]) hW (Nat.le_refl _) (by show w.heap.size ≠ g; omega) rfl rfl e2 e23 rfl hus hul (fun x hx => by rw [List.mem_singleton.1 hx]; exact hus.lt)
    · intro f w6 hf hgr hst hrd
      have e23 : f 23 = _ := XHas.at (hf 23 (by decide)).2.2
      obtain ⟨f5, e25⟩ : ∃ f5 : F5, f 25 = fvv f5 := XHas.at (hf 25 (by decide)).2.2
      have e24 : f 24 = .pointer (some ⟨g, 0, none⟩) := (hf 24 (by decide)).1
      have hBc : Box w6 w.heap.size 25 [.int .i64 N, .int .i64 R, .slice b n c2] := hst 3 _ (by decide) rfl rfl _ List.mem_cons_self rfl
      have hBf : Box w6 (w.heap.size + 1) 27 [.int .i64 0, .int .i64 0, .int .i64 0, .int .i64 0, .int .i64 0] := hgr.box B4'.out (by omega) (fun q hq => by rw [List.mem_singleton.1 hq]; show w.heap.size + 1 ≠ w.heap.size; omega)
      have q5 := Lib.hid (q4.out.trans (hgr.below (L := w.heap.size) (by have := B4.out.lt; omega) (by omega) (fun q hq => by rw [List.mem_singleton.1 hq]; exact Nat.le_refl _)))
      have HI5 := Lib.hid (HI4.out.of_block hgr.size (fun q hq => hgr.block q.block (by have := (hbk.out q hq).2.2.2.1; have := HT4.out.lt; omega) (hbk.out q hq).1 (fun x hx => by rw [List.mem_singleton.1 hx]; exact (hbk.out q hq).2.1)))
      obtain ⟨x0, x1, x2, x3, x4⟩ := f5
      obtain ⟨y0, y1, y2, fy⟩ := hBc.three
      obtain ⟨z0, z1, z2, z3, z4, fz⟩ := hBf.five
      simp only [List.drop_succ_cons, List.drop_zero, putL, Act.put, List.setIfInBounds_toArray, List.set_cons_succ, List.set_cons_zero, e23, e24, e25, fvv]
      clear hf hgr hst hrd e23 e24 e25 hBc hBf
      have hne9 : ¬ w.heap.size = w.heap.size + 1 := by omega
      have hne8 : ¬ w.heap.size + 1 = w.heap.size := by omega
      go_wp2
      refine bodyPost_ret (v := .tuple #[.agg #[.int .i64 N, .int .i64 R, .slice b n c2], fvv (x0, x1, x2, x3, x4)]) (by simp [results, Try.results11, go_sem, fvv, y0, y1, y2, z0, z1, z2, z3, z4]) rfl ?_
      exact hret.out (x0, x1, x2, x3, x4) _ (HI5.out.of_block (by simp) (fun q hq => blk5 _ (hbk.out q hq).2.2.1 _ _ _ _ _)) (below5 q5.out (by omega) _ _ _ _ _)
end Go.Proofs.Ytalalapjanckdaa
