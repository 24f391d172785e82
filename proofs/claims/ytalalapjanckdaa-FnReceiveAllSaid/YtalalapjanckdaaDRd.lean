/- The draws of the laws Receive and ReceiveAll. No condition. -/
import Derived.Test.YtalalapjanckdaaTyZ
import Derived.Test.YtalalapjanckdaaDRc
import Derived.Test.YtalalapjanckdaaDLaw
namespace Go.Proofs.Ytalalapjanckdaa
open Go.RowKit
theorem run_ldS (o : Oper) (ρ : Operand → Value) (w : World) (x : Operand) (b : Nat) (u0 u1 u2 : Value) (ho : o.op = .load 52 x) (hx : ρ x = .pointer (some ⟨b, 0, none⟩)) (hb : Box w b 52 [u0, u1, u2]) :
    (execOp ρ o).run Try.prog w = .ok (.value (.agg #[u0, u1, u2])) w := by
  obtain ⟨c0, c1, c2, -⟩ := hb.three
  simp [execOp, ho, hx, c0, c1, c2, go_sem]
theorem run_stS (o : Oper) (ρ : Operand → Value) (w : World) (x y : Operand) (b : Nat) (N R : Int) (q c n : Nat) (u0 u1 u2 : Value) (ho : o.op = .store 52 x y) (hx : ρ x = .pointer (some ⟨b, 0, none⟩)) (hy : ρ y = .agg #[.int .i64 N, .int .i64 R, .slice (some ⟨q, 0, none⟩) n c]) (hb : Box w b 52 [u0, u1, u2]) :
    (execOp ρ o).run Try.prog w = .ok .skip (((w.setCell ⟨b, 0, none⟩ (.int .i64 N)).setCell ⟨b, 1, none⟩ (.int .i64 R)).setCell ⟨b, 2, none⟩ (.slice (some ⟨q, 0, none⟩) n c)) := by
  obtain ⟨c0, c1, c2, cf⟩ := hb.three
  simp [execOp, ho, hx, hy, c0, c1, c2, cf, go_sem]
theorem Ints.grv {g c : Nat} {S : TypeId} {V : Array Value} {w w' : World} {b : Nat} {xs : List Int} (h : Ints w (some ⟨b, 0, none⟩) xs) (hg : GrV g c S V w w') (h1 : b ≠ g) (h2 : b ≠ c) : Ints w' (some ⟨b, 0, none⟩) xs := by
  rcases h with h | ⟨b', off, ha, hb, hc⟩
  · exact .inl h
  · cases ha
    exact .inr ⟨b, 0, rfl, Nat.lt_of_lt_of_le hb hg.size, fun i hi => (World.cell?_of_block (hg.block b hb h1 h2)).trans (hc i hi)⟩
/-- A receiver and a number are drawn; nothing that was there has turned. -/
def RetDRc (w : World) (e : Ending) (w' : World) : Prop :=
  ∃ (N R : Int) (b cap : Nat) (xs : List Int) (x : Int), e = .returned (.tuple #[.agg #[.int .i64 N, .int .i64 R, .slice (some ⟨b, 0, none⟩) xs.length cap], .int .i64 x]) ∧ -1 ≤ N ∧ N ≤ 100001 ∧ 0 ≤ R ∧ R ≤ 11 ∧ xs.length ≤ 12 ∧ Ints w' (some ⟨b, 0, none⟩) xs ∧ Below w.heap.size w w'
/-- What is said by hand of the receiver that is read. -/
def DX (N R : Int) (b n cap g5 : Nat) : List (Tmp × (Value → World → Prop)) :=
  [(10, fun v _ => v = .agg #[.int .i64 N, .int .i64 R, .slice (some ⟨b, 0, none⟩) n cap]), (11, fun v _ => v = .pointer (some ⟨g5, 0, none⟩)), (12, fun v _ => v = .int .i64 N)]
theorem DX.stable {N R : Int} {b n cap g5 g c : Nat} {S : TypeId} {V : Array Value} : ∀ q ∈ DX N R b n cap g5, ∀ v w w', q.2 v w → GrV g c S V w w' → q.2 v w' := by
  intro q hq v w w' h hg
  simp only [DX, List.mem_cons, List.not_mem_nil, or_false] at hq
  rcases hq with rfl | rfl | rfl <;> exact h
set_option maxHeartbeats 2000000 in
set_option maxRecDepth 100000 in
theorem s_DrawReceive (a : Option Addr) (len cap : Nat) (w : World) (hcl : len ≤ cap) (hcap : cap ≤ maxLen) (h : Code w.heap.size w a len) :
    Calls Try.prog 28 #[.slice a len cap] w (RetDRc w) := by
  have HC := Lib.hid h
  clear h
  go_enter Try.func28, Try.ntmps28
  go_wp2_with fail
  refine (c_open (D := w.heap.size) a len cap _ hcl hcap (by simp) (HC.out.below ((Below.refl _ _).alloc (Nat.le_refl _) _))).mono ?_
  rintro e w1 ⟨g, rfl, hg, hr, hb⟩
  simp only [World.size_alloc] at hg
  have HR := Lib.hid hr
  have HB := Lib.hid hb
  have hz := hb.size
  simp only [World.size_alloc] at hz
  clear hr hb
  go_wp2_with fail
  refine (s_l20Receiver g 0 _ _ HR.out (by omega) (by omega) (by omega)).mono ?_
  rintro e w2 ⟨N, R, b, c2, xs, rfl, N1, N2, R1, R2, hx, ho2, ⟨p2, hp2, hr2⟩, hg2⟩
  have q1 : Below w.heap.size w w1 := ((Below.refl _ _).alloc (Nat.le_refl _) _).trans (HB.out.mono (by simp))
  have B1 : Box w1 w.heap.size 52 [.int .i64 0, .int .i64 0, .slice none 0 0] := (Box.new w 52 [.int .i64 0, .int .i64 0, .slice none 0 0]).keep HB.out
  obtain ⟨w3, hw3, hb3, hz3, hx3⟩ : ∃ W, W = w2.alloc (.cells #[.int .i64 N, .int .i64 R, .slice (some ⟨b, 0, none⟩) xs.length c2] 52) ∧ Below w2.heap.size w2 W ∧ W.heap.size = w2.heap.size + 1 ∧ Box W w2.heap.size 52 [.int .i64 N, .int .i64 R, .slice (some ⟨b, 0, none⟩) xs.length c2] := head1 w2 52 _
  obtain ⟨hbl, hbl2⟩ := ho2.lt b rfl
  have hgl2 := hr2.lt
  have z2 := hg2.size
  have HW3 := Lib.hid hw3
  have B3 := Lib.hid ((B1.by hg2 (by omega)).keep hb3)
  have q3 := Lib.hid ((q1.trans (gb_below hg2 (by omega) (by omega))).trans (hb3.mono (by omega)))
  have HR3 := Lib.hid (hr2.keep (below_grown hb3))
  have HT := Lib.hid hx3
  have HI := Lib.hid ((own_ints ho2).1.below hb3)
  have z3 : w2.heap.size + 1 ≤ w3.heap.size := by omega
  have hbg : b ≠ g := by
    intro e
    subst e
    obtain ⟨_, _, _, _, h9, _⟩ := hr2
    rcases ho2.2 with ⟨h1, _⟩ | ⟨g', c', cur, h1, _, h2, _⟩
    · cases h1
    · injection h1 with h1 _ _
      injection h1 with h1
      injection h1 with h1 _ _
      subst h1
      rw [h2] at h9
      injection h9 with h9
      injection h9 with _ h10 _
      exact absurd h10 (by decide)
  clear q1 B1 hg2 hr2 hw3 hb3 hz3 hx3 ho2
  go_upto_region 3 with fail
  rw [← HW3.out]
  refine region_checked_xc (D := w.heap.size + 1) (D0 := w.heap.size) _ 0 false 14 23 g p2 w.heap.size 52 #[.int .i64 N, .int .i64 R, .slice (some ⟨b, 0, none⟩) xs.length c2] [(4, .rd)]
    [(4, .rd), (10, .any), (11, .any), (12, .int (-1) 100001), (13, .rd), (14, .int 0 11), (15, .int (-1) 10), (16, .sl [(-1, 10), (0, 0)]), (17, .rd), (18, .int 0 2), (19, .int 0 1), (20, .pt (-1) 10), (21, .int (-1) 10), (22, .int (-2) 100011)]
    [10, 11, 12, 13, 14, 15, 16, 17, 18, 19, 20, 21, 22] [] (DX N R b xs.length c2 w2.heap.size) [10, 11, 12] [0, 1, 2, 13] rfl (by kernel_rfl) rfl DX.stable (fun h => by cases h) ?_ HR3.out (by omega) (by omega) (by omega) (by omega) ?_ ?_
  · intro q hq
    simp only [List.mem_cons, List.not_mem_nil, or_false] at hq
    subst hq
    rfl
  · intro i hi o hin ho k a' W' hk hdef hfrm hdep hgr hW
    obtain ⟨q9, hq9, hr9⟩ := hW
    have hgl := hr9.lt
    have hcw : w.heap.size < W'.heap.size := Nat.lt_of_lt_of_le B3.out.lt hgr.size
    have hT' : Box W' w2.heap.size 52 [.int .i64 N, .int .i64 R, .slice (some ⟨b, 0, none⟩) xs.length c2] := hgr.keeps HT.out (by omega) (by omega)
    obtain ⟨c0, c1, _, -⟩ := hT'.three
    have e5 : a'.tmps.getD 5 undef = .pointer (some ⟨w2.heap.size, 0, none⟩) := (hfrm 5 (by kernel_rfl)).trans rfl
    have e2 : a'.tmps.getD 2 undef = .pointer (some ⟨w.heap.size, 0, none⟩) := (hfrm 2 (by kernel_rfl)).trans rfl
    have hD9 : ∃ p', p' ≤ p2 + (k + 1) ∧ Rd w.heap.size W' g p' := ⟨q9, by omega, hr9⟩
    simp only [List.mem_cons, List.not_mem_nil, or_false] at hi
    rcases hi with rfl | rfl | rfl | rfl
    all_goals
      injection ho with ho
      subst ho
    · refine wp_val2 rfl (run_ldS _ _ _ _ w2.heap.size _ _ _ rfl e5 hT') ⟨GrV.rfl' _, hD9, _, rfl, trivial, (fun s hs => by cases hs), ?_⟩
      intro q hq e
      simp only [DX, List.mem_cons, List.not_mem_nil, or_false] at hq
      rcases hq with rfl | rfl | rfl <;> first | rfl | cases e
    · refine wp_val2 rfl ((run_faR _ _ _ _ w2.heap.size e5).1 rfl) ⟨GrV.rfl' _, hD9, _, rfl, trivial, (fun s hs => by cases hs), ?_⟩
      intro q hq e
      simp only [DX, List.mem_cons, List.not_mem_nil, or_false] at hq
      rcases hq with rfl | rfl | rfl <;> first | rfl | cases e
    · have e11 := (hdep 11 (by kernel_rfl)).2.2 _ (List.mem_cons_of_mem _ List.mem_cons_self) rfl
      refine wp_val2 rfl ((run_ldR _ _ _ _ w2.heap.size 0 _ e11 c0).1 rfl) ⟨GrV.rfl' _, hD9, _, rfl, ⟨N, rfl, N1, N2⟩, (fun s hs => by cases hs), ?_⟩
      intro q hq e
      simp only [DX, List.mem_cons, List.not_mem_nil, or_false] at hq
      rcases hq with rfl | rfl | rfl <;> first | rfl | cases e
    · have e10 := (hdep 10 (by kernel_rfl)).2.2 _ List.mem_cons_self rfl
      obtain ⟨u0, u1, u2, hc9⟩ : ∃ u0 u1 u2, Box W' w.heap.size 52 [u0, u1, u2] := by
        rcases hgr.cell with h | h
        · exact ⟨_, _, _, h.trans B3.out⟩
        · exact ⟨_, _, _, h⟩
      unfold Oper.wp
      rw [run_stS _ _ _ _ _ w.heap.size N R b c2 xs.length u0 u1 u2 rfl e2 e10 hc9]
      refine ⟨⟨rfl, rfl, rfl, by simp, fun j hj h1 h2 => ?_, .inr (((hc9.set 0 _).set 1 _).set 2 _)⟩, ⟨q9, by omega, ((hr9.other (Nat.le_refl _) (by omega) _ _).other (Nat.le_refl _) (by omega) _ _).other (Nat.le_refl _) (by omega) _ _⟩, rfl, ((hc9.set 0 _).set 1 _).set 2 _⟩
      exact (heap_setCell_other _ ⟨w.heap.size, 2, none⟩ j _ h2).trans ((heap_setCell_other _ ⟨w.heap.size, 1, none⟩ j _ h2).trans (heap_setCell_other _ ⟨w.heap.size, 0, none⟩ j _ h2))
  · intro f w4 hf hgr hst hrd
    obtain ⟨x, e22, x1, x2⟩ := (hf 22 (by decide)).1
    have e22' : f 22 = .int .i64 x := e22
    have hBc : Box w4 w.heap.size 52 [.int .i64 N, .int .i64 R, .slice (some ⟨b, 0, none⟩) xs.length c2] := hst 13 _ (by decide) rfl rfl
    have q4 := Lib.hid (q3.out.trans (hgr.below (L := w.heap.size) (by omega) (by omega) (Nat.le_refl _)))
    have HI4 := Lib.hid (HI.out.grv hgr hbg (by omega))
    obtain ⟨y0, y1, y2, fy⟩ := hBc.three
    simp only [List.drop_succ_cons, List.drop_zero, putL, Act.put, List.setIfInBounds_toArray, List.set_cons_succ, List.set_cons_zero, e22']
    clear hf hgr hst hrd e22 e22' hBc
    go_wp2
    refine bodyPost_ret (v := .tuple #[.agg #[.int .i64 N, .int .i64 R, .slice (some ⟨b, 0, none⟩) xs.length c2], .int .i64 x]) (by simp [results, Try.results28, go_sem, y0, y1, y2]) rfl ?_
    exact ⟨N, R, b, c2, xs, x, rfl, N1, N2, R1, R2, hx, HI4.out, q4.out⟩
/-- A receiver and numbers are drawn; nothing that was there has turned. -/
def RetDRa (w : World) (e : Ending) (w' : World) : Prop :=
  ∃ (N R : Int) (b cap : Nat) (xs : List Int) (b2 cap2 : Nat) (ys : List Int), e = .returned (.tuple #[.agg #[.int .i64 N, .int .i64 R, .slice (some ⟨b, 0, none⟩) xs.length cap], .slice (some ⟨b2, 0, none⟩) ys.length cap2]) ∧ -1 ≤ N ∧ N ≤ 100001 ∧ 0 ≤ R ∧ R ≤ 11 ∧ xs.length ≤ 12 ∧ ys.length ≤ 41 ∧ ys.length ≤ cap2 ∧ cap2 ≤ maxLen ∧ Ints w' (some ⟨b, 0, none⟩) xs ∧ Ints w' (some ⟨b2, 0, none⟩) ys ∧ Below w.heap.size w w'
/-- What is said by hand of the number that is put behind the others. -/
def EX (N : Int) (g5 : Nat) : List (Tmp × (Value → World → Prop)) := [(20, fun v _ => v = .pointer (some ⟨g5, 0, none⟩)), (21, fun v _ => v = .int .i64 N)]
theorem EX.stable {N : Int} {g5 g : Nat} : ∀ q ∈ EX N g5, ∀ v w w', q.2 v w → w.grownBy w' (some g) → q.2 v w' := by
  intro q hq v w w' h hg
  simp only [EX, List.mem_cons, List.not_mem_nil, or_false] at hq
  rcases hq with rfl | rfl <;> exact h
def DaE (D B g : Nat) (w : World) (s : Value) (wx : World) : Prop :=
  ∃ (b2 cap2 : Nat) (ys : List Int), s = .slice (some ⟨b2, 0, none⟩) ys.length cap2 ∧ ys.length ≤ 41 ∧ wx.ownsRow B 3 1 (.slice (some ⟨b2, 0, none⟩) ys.length cap2) ys.length (ys.map (Value.int .i64)) ∧ (∃ q, Rd D wx g q) ∧ w.grownBy wx (some g)
set_option maxHeartbeats 2000000 in
set_option maxRecDepth 100000 in
theorem s_DrawReceiveAll (a : Option Addr) (len cap : Nat) (w : World) (hcl : len ≤ cap) (hcap : cap ≤ maxLen) (h : Code w.heap.size w a len) :
    Calls Try.prog 42 #[.slice a len cap] w (RetDRa w) := by
  have HC := Lib.hid h
  clear h
  go_enter Try.func42, Try.ntmps42
  go_wp2_with fail
  refine (c_open (D := w.heap.size) a len cap _ hcl hcap (by simp) (HC.out.below ((Below.refl _ _).alloc (Nat.le_refl _) _))).mono ?_
  rintro e w1 ⟨g, rfl, hg, hr, hb⟩
  simp only [World.size_alloc] at hg
  have HR := Lib.hid hr
  have HB := Lib.hid hb
  have hz := hb.size
  simp only [World.size_alloc] at hz
  clear hr hb
  go_wp2_with fail
  refine (s_l20Receiver g 0 _ _ HR.out (by omega) (by omega) (by omega)).mono ?_
  rintro e w2 ⟨N, R, b, c2, xs, rfl, N1, N2, R1, R2, hx, ho2, ⟨p2, hp2, hr2⟩, hg2⟩
  have q1 : Below w.heap.size w w1 := ((Below.refl _ _).alloc (Nat.le_refl _) _).trans (HB.out.mono (by simp))
  have B1 : Box w1 w.heap.size 52 [.int .i64 0, .int .i64 0, .slice none 0 0] := (Box.new w 52 [.int .i64 0, .int .i64 0, .slice none 0 0]).keep HB.out
  obtain ⟨w3, hw3, hb3, hz3, hx3⟩ : ∃ W, W = w2.alloc (.cells #[.int .i64 N, .int .i64 R, .slice (some ⟨b, 0, none⟩) xs.length c2] 52) ∧ Below w2.heap.size w2 W ∧ W.heap.size = w2.heap.size + 1 ∧ Box W w2.heap.size 52 [.int .i64 N, .int .i64 R, .slice (some ⟨b, 0, none⟩) xs.length c2] := head1 w2 52 _
  obtain ⟨hbl, hbl2⟩ := ho2.lt b rfl
  have hgl2 := hr2.lt
  have z2 := hg2.size
  have HW3 := Lib.hid hw3
  have B3 := Lib.hid ((B1.by hg2 (by omega)).keep hb3)
  have q3 := Lib.hid ((q1.trans (gb_below hg2 (by omega) (by omega))).trans (hb3.mono (by omega)))
  have HR3 := Lib.hid (hr2.keep (below_grown hb3))
  have HT := Lib.hid hx3
  have HI := Lib.hid (row_below ho2 hb3)
  have z3 : w2.heap.size + 1 ≤ w3.heap.size := by omega
  have hbg : b ≠ g := by
    intro e
    subst e
    obtain ⟨_, _, _, _, h9, _⟩ := hr2
    rcases ho2.2 with ⟨h1, _⟩ | ⟨g', c', cur, h1, _, h2, _⟩
    · cases h1
    · injection h1 with h1 _ _
      injection h1 with h1
      injection h1 with h1 _ _
      subst h1
      rw [h2] at h9
      injection h9 with h9
      injection h9 with _ h10 _
      exact absurd h10 (by decide)
  clear q1 B1 hg2 hr2 hw3 hb3 hz3 hx3 ho2
  go_upto_region 3 with fail
  rw [← HW3.out]
  go_wp2_with fail
  refine (c_pick g p2 12 _ (HR3.out.keep (grownBy_alloc _ _ _)) (by omega) (by omega) (by omega)).mono ?_
  rintro e w4 ⟨x, rfl, y0, y1, _, hr4, hg4⟩
  have y1 := y1 (by omega)
  obtain ⟨j0, rfl⟩ := Int.eq_ofNat_of_zero_le y0
  have O4 := Lib.hid (row_kept (row_emp w3 w3.heap.size 3 1 rfl (Nat.le_refl _)) hg4 (fun k hk => by simp [Value.ownBlock] at hk; simp; omega))
  have G4 := Lib.hid (grownBy_tr (grownBy_alloc w3 (some g) (.cells #[] 3)) hg4)
  have R4 := Lib.hid hr4
  clear hr4 hg4
  go_wp2_with fail
  go_loopw [6, 7] (fun v i wr => ∃ (j q b2 cap2 : Nat) (ys : List Int), v = .slice (some ⟨b2, 0, none⟩) ys.length cap2 ∧ i = .int .i64 (j : Int) ∧ ys.length + j ≤ 11 ∧ q ≤ p2 + 1 + 8 * ys.length ∧ wr.ownsRow w3.heap.size 3 1 (.slice (some ⟨b2, 0, none⟩) ys.length cap2) ys.length (ys.map (Value.int .i64)) ∧ Rd w.heap.size wr g q ∧ w3.grownBy wr (some g)) (fun _ i _ => (intOf i).toNat)
  case atStart => exact ⟨j0, p2 + 1, w3.heap.size, 0, [], rfl, rfl, by simp; omega, by simp, O4.out, R4.out, G4.out⟩
  case round =>
    obtain ⟨j, q, b2, cap2, ys, rfl, rfl, hj, hq, hown, hrd, hgr⟩ := hrel
    have HO := Lib.hid hown
    have HRd := Lib.hid hrd
    have HG := Lib.hid hgr
    obtain ⟨hb2l, hb2l2⟩ := hown.lt b2 rfl
    have zr := hgr.size
    have TB := Lib.hid (HT.out.by hgr (by omega))
    clear hown hrd hgr O4 R4 G4
    by_cases hlt : 0 < j
    · go_wp2_with fail
      refine region_checked_x (D := w.heap.size) _ 0 false 8 33 g q [(4, .rd)] [(4, .rd), (19, .any), (20, .any), (21, .int (-1) 100001), (22, .rd), (23, .int 0 9), (24, .int (-1) 100010), (25, .int (-2) 100009), (26, .sl [(-2, 100009)])] [19, 20, 21, 22, 23, 24, 25, 26] [(19, 6)] (EX N w2.heap.size) [20, 21] [1, 2] rfl (by kernel_rfl) rfl EX.stable (fun h => by cases h) ?_ HRd.out (by omega) ?_ ?_
      · intro q hq
        simp only [List.mem_cons, List.not_mem_nil, or_false] at hq
        subst hq
        rfl
      · intro i hi o d hin ho hd k a' W' hk hdef hfrm hdep hgr hW
        obtain ⟨q9, hq9, hr9⟩ := hW
        obtain ⟨c0, -⟩ := (TB.out.by hgr (by omega)).three
        have e5 : a'.tmps.getD 5 undef = .pointer (some ⟨w2.heap.size, 0, none⟩) := (hfrm 5 (by kernel_rfl)).trans rfl
        have hD9 : ∃ p', p' ≤ q + (k + 1) ∧ Rd w.heap.size W' g p' := ⟨q9, by omega, hr9⟩
        simp only [List.mem_cons, List.not_mem_nil, or_false] at hi
        rcases hi with rfl | rfl
        all_goals
          injection ho with ho
          subst ho
          injection hd with hd
          subst hd
        · refine wp_val2 rfl ((run_faR _ _ _ _ w2.heap.size e5).1 rfl) ⟨_, rfl, ⟨trivial, (fun s hs => by cases hs), ?_⟩, grownBy_rfl _ _, hD9⟩
          intro q hq e
          simp only [EX, List.mem_cons, List.not_mem_nil, or_false] at hq
          rcases hq with rfl | rfl <;> first | rfl | cases e
        · have e20 := (hdep 20 (by kernel_rfl)).2.2 _ List.mem_cons_self rfl
          refine wp_val2 rfl ((run_ldR _ _ _ _ w2.heap.size 0 _ e20 c0).1 rfl) ⟨_, rfl, ⟨⟨N, rfl, N1, N2⟩, (fun s hs => by cases hs), ?_⟩, grownBy_rfl _ _, hD9⟩
          intro q hq e
          simp only [EX, List.mem_cons, List.not_mem_nil, or_false] at hq
          rcases hq with rfl | rfl <;> first | rfl | cases e
      · intro f w8 hf hgr ⟨p8, hp8, hr8⟩
        have e19 : f 19 = .slice (some ⟨b2, 0, none⟩) ys.length cap2 := (hf 19 (by decide)).2.1 6 (by kernel_rfl)
        obtain ⟨b3, zs, e26, hb31, hb32, hb33, hbd⟩ := (hf 26 (by decide)).1
        obtain ⟨y, rfl⟩ : ∃ y, zs = [y] := by
          have := hbd.len
          match zs, this with
          | [y], _ => exact ⟨y, rfl⟩
        have e26' : f 26 = .slice (some ⟨b3, 0, none⟩) 1 1 := e26
        have hbg2 : b2 ≠ g := by omega
        have O8 := Lib.hid (row_kept HO.out hgr (fun k hk => by simp [Value.ownBlock] at hk; simp; omega))
        have G8 := Lib.hid (grownBy_tr HG.out hgr)
        have R8 := Lib.hid hr8
        have BN := Lib.hid (show Box w8 b3 3 [.int .i64 y] from hb33)
        have z8 : wr.heap.size ≤ w8.heap.size := hgr.size
        simp only [List.drop_succ_cons, List.drop_zero, putL, Act.put, List.setIfInBounds_toArray, List.set_cons_succ, List.set_cons_zero, e19, e26']
        clear hf hgr hr8 e19 e26 e26' hb33 hbd
        go_wp2_with (at_builtin; refine wpl_app _ rfl elemI (.tmp 19) (.tmp 26) rfl w3.heap.size _ ys.length _ rfl O8.out ⟨b3, 0, none⟩ 1 1 [.int .i64 y] rfl rfl (news_of BN.out) (one1 rfl) (by decide) ?c1 ?c2 (ys.length + 1) rfl (ys.map (Value.int .i64) ++ [.int .i64 y]) rfl ?c4)
        case c1 => omega
        case c2 => omega
        case c4 =>
          intro b7 cap7 w9 hown hgrow hat hlt7
          have O9 := Lib.hid hown
          have G9 := Lib.hid (gb_own (b := b2) G8.out hgrow hb2l)
          have R9 := Lib.hid (R8.out.far (b := b2) hgrow (by omega) hbg2)
          clear hown hgrow hat
          go_wp2
          go_roundw
          case rel => exact ⟨j - 1, p8, b7, cap7, ys ++ [y], by simp, by go_num, by simp; omega, by simp; omega, by simpa using O9.out, R9.out, G9.out⟩
          case measure => simp [intOf]; omega
    · obtain rfl : j = 0 := by omega
      go_wp2_with fail
      refine (c_odd g q 24 _ HRd.out (by omega) (by omega) (by omega)).mono ?_
      rintro e w6 ⟨od, rfl, ⟨q6, hq6, hr6⟩, hg6⟩
      have O6 := Lib.hid (row_kept HO.out hg6 (fun k hk => by simp [Value.ownBlock] at hk; simp; omega))
      have G6 := Lib.hid (grownBy_tr HG.out hg6)
      have R6 := Lib.hid hr6
      have z6 : wr.heap.size ≤ w6.heap.size := hg6.size
      clear hr6 hg6
      go_upto_if 29 with fail
      go_cut [6] (fun s wx => DaE w.heap.size w3.heap.size g w3 s wx)
      case first =>
        cases od
        · go_wp2_with fail
          go_meet
          exact ⟨b2, cap2, ys, rfl, by omega, O6.out, ⟨_, R6.out⟩, G6.out⟩
        · obtain ⟨i0, hi, hz0, hz1, hz2⟩ := info_parts infoInt
          go_wp2_with (at_make; refine wpList_make_full _ rfl _ _ 50 rfl w3.heap.size 3 i0 (.int .i64 0) 1 Try.underlying50 hi hz0 hz1 .i64 .i64 _ _ 41 rfl rfl rfl rfl ?d1 ?d2 ?d3 ?d4)
          case d1 => rw [hz2]; omega
          case d2 => unfold maxLen; omega
          case d3 => omega
          case d4 =>
            intro w7 hown hgr7
            have G7 := Lib.hid (gb_none G6.out hgr7)
            have O7 := Lib.hid hown
            have R7 := Lib.hid (R6.out.keep hgr7)
            clear hown hgr7
            go_wp2_with fail
            go_meet
            refine ⟨w6.heap.size, 41, List.replicate 41 0, by simp, by simp, ?_, ⟨_, R7.out⟩, G7.out⟩
            have e : (madeCells #[Value.int .i64 0] 41).toList = (List.replicate 41 (0 : Int)).map (Value.int .i64) := by kernel_rfl
            rw [← e]
            exact O7.out
      case rest =>
        obtain ⟨b9, cap9, zs, rfl, hzl, hown, ⟨q9, hr9⟩, hgr⟩ := hcut
        obtain ⟨wz, rfl⟩ : ∃ wo : World, wo = wc := ⟨_, rfl⟩
        obtain ⟨x0, x1, x2, fx⟩ := (HT.out.by hgr (by omega)).three
        obtain ⟨y0, y1, y2, fy⟩ := (B3.out.by hgr (by omega)).three
        have O9 := Lib.hid hown
        have I9 := Lib.hid (row_kept HI.out hgr (fun k hk => by simp [Value.ownBlock] at hk; simp; omega))
        have q9 := Lib.hid (q3.out.trans (gb_below hgr (by omega) (by omega)))
        obtain ⟨l1, l2⟩ := hown.lt b9 rfl
        clear hown hr9 hgr
        go_wp2
        have hb := q9.out
        refine bodyPost_ret (v := .tuple #[.agg #[.int .i64 N, .int .i64 R, .slice (some ⟨b, 0, none⟩) xs.length c2], .slice (some ⟨b9, 0, none⟩) zs.length cap9]) (by simp [results, Try.results42, go_sem, y0, y1, y2]) rfl ?_
        have hne1 : (Value.slice (some ⟨b, 0, none⟩) xs.length c2).ownBlock ≠ some w.heap.size := by simp [Value.ownBlock]; omega
        have hne2 : (Value.slice (some ⟨b9, 0, none⟩) zs.length cap9).ownBlock ≠ some w.heap.size := by simp [Value.ownBlock]; omega
        exact ⟨N, R, b, c2, xs, b9, cap9, zs, rfl, N1, N2, R1, R2, hx, hzl, (row_cap O9.out).1, (row_cap O9.out).2, (own_ints (row_set (row_set (row_set I9.out _ _ hne1) _ _ hne1) _ _ hne1)).1, (own_ints (row_set (row_set (row_set O9.out _ _ hne2) _ _ hne2) _ _ hne2)).1, by go_grown⟩
end Go.Proofs.Ytalalapjanckdaa
