/- The draw of a key and shares. No condition. -/
import Derived.Test.YtdpmlkigmadajaaKey
import Derived.Test.YtdpmlkigmadajaaApp
namespace Go.Proofs.Ytdpmlkigmadajaa
open Go.RowKit
variable {D : Nat}
/-- A number and a list of at most 11 numbers; nothing that was there has turned. -/
def RetKL (w : World) (e : Ending) (w' : World) : Prop :=
  ∃ (key : Int) (b cap : Nat) (xs : List Int), e = .returned (.tuple #[.int .i64 key, .slice (some ⟨b, 0, none⟩) xs.length cap]) ∧ -1 ≤ key ∧ key ≤ 1000003 ∧ xs.length ≤ 11 ∧ (∀ x ∈ xs, -1 ≤ x ∧ x ≤ 101) ∧
    Ints w' (some ⟨b, 0, none⟩) xs ∧ Below w.heap.size w w'
theorem in_snoc {xs : List Int} {lo hi k : Int} (h : ∀ x ∈ xs, lo ≤ x ∧ x ≤ hi) (h1 : lo ≤ k) (h2 : k ≤ hi) : ∀ x ∈ xs ++ [k], lo ≤ x ∧ x ≤ hi := by
  intro x hx
  rcases List.mem_append.1 hx with h' | h'
  · exact h x h'
  · simp only [List.mem_cons, List.not_mem_nil, or_false] at h'; subst h'; exact ⟨h1, h2⟩
/-- v is a new list of just the numbers xs, not in the reader's block. -/
def HasL (D g : Nat) (xs : List Int) (v : Value) (w : World) : Prop := ∃ b, v = .slice (some ⟨b, 0, none⟩) xs.length xs.length ∧ D ≤ b ∧ b ≠ g ∧ w.heap[b]? = some (.cells (ints xs) 3 (0, 0))
theorem HasL.stable {D g : Nat} {xs : List Int} {v : Value} {w w' : World} (h : HasL D g xs v w) (hg : w.grownBy w' (some g)) : HasL D g xs v w' := by
  obtain ⟨b, h1, h0, h2, h3⟩ := h
  exact ⟨b, h1, h0, h2, (hg.block b (lt_of_heap h3) (fun e => h2 (by simpa using e))).trans h3⟩
def l0 : List Int := []
def l1 : List Int := [50, 49]
def l2 : List Int := [101, -1]
def l3 : List Int := [50, 51]
def l4 : List Int := [9, 9, 9, 9, 9, 9, 9, 9, 9, 9, 10]
def OneOf (D g : Nat) (v : Value) (w : World) : Prop := HasL D g l0 v w ∨ HasL D g l1 v w ∨ HasL D g l2 v w ∨ HasL D g l3 v w ∨ HasL D g l4 v w
theorem OneOf.stable {D g : Nat} {v : Value} {w w' : World} (h : OneOf D g v w) (hg : w.grownBy w' (some g)) : OneOf D g v w' :=
  h.imp (·.stable hg) (·.imp (·.stable hg) (·.imp (·.stable hg) (·.imp (·.stable hg) (·.stable hg))))
/-- What the slots of the drawn statement hold. -/
def TP (D g : Nat) (key : Int) (d : Tmp) (v : Value) (w : World) : Prop :=
  if d = 38 ∨ d = 2 then v = .int .i64 key
  else if d = 39 then HasL D g l0 v w
  else if d = 40 then HasL D g l1 v w
  else if d = 41 then HasL D g l2 v w
  else if d = 42 then HasL D g l3 v w
  else if d = 43 then HasL D g l4 v w
  else if d = 44 then ∃ b v0 v1 v2 v3 v4, v = .slice (some ⟨b, 0, none⟩) 5 5 ∧ D ≤ b ∧ b ≠ g ∧ w.heap[b]? = some (.cells #[v0, v1, v2, v3, v4] 23 (0, 0)) ∧ HasL D g l0 v0 w ∧ HasL D g l1 v1 w ∧ HasL D g l2 v2 w ∧ HasL D g l3 v3 w ∧ HasL D g l4 v4 w
  else if d = 45 then v = .pointer (some ⟨g, 0, none⟩)
  else if d = 46 then ∃ x, v = .int .i64 x ∧ 0 ≤ x ∧ x ≤ 4
  else if d = 47 then ∃ b j u, v = .pointer (some ⟨b, j, none⟩) ∧ b ≠ g ∧ b < w.heap.size ∧ w.cell? ⟨b, j, none⟩ = some u ∧ OneOf D g u w
  else if d = 48 then OneOf D g v w
  else True
theorem ite_mono {c : Prop} [Decidable c] {P P' Q Q' : Prop} (h1 : P → P') (h2 : Q → Q') : (if c then P else Q) → (if c then P' else Q') := by
  intro h
  by_cases hc : c
  · rw [if_pos hc] at h ⊢; exact h1 h
  · rw [if_neg hc] at h ⊢; exact h2 h
theorem TP.stable {D g : Nat} {key : Int} {d : Tmp} {v : Value} {w w' : World} (h : TP D g key d v w) (hg : w.grownBy w' (some g)) : TP D g key d v w' := by
  unfold TP at h ⊢
  refine ite_mono id (ite_mono (fun h => h.stable hg) (ite_mono (fun h => h.stable hg) (ite_mono (fun h => h.stable hg) (ite_mono (fun h => h.stable hg) (ite_mono (fun h => h.stable hg) (ite_mono ?_ (ite_mono id (ite_mono id (ite_mono ?_ (ite_mono (fun h => h.stable hg) id)))))))))) h
  · rintro ⟨b, v0, v1, v2, v3, v4, h1, h2, h3, h4, k0, k1, k2, k3, k4⟩
    exact ⟨b, v0, v1, v2, v3, v4, h1, h2, h3, (hg.block b (lt_of_heap h4) (fun e => h3 (by simpa using e))).trans h4, k0.stable hg, k1.stable hg, k2.stable hg, k3.stable hg, k4.stable hg⟩
  · rintro ⟨b, j, u, h1, h2, h3, h4, h5⟩
    exact ⟨b, j, u, h1, h2, Nat.lt_of_lt_of_le h3 hg.size, (World.cell?_of_block (hg.block b h3 (fun e => h2 (by simpa using e)))).trans h4, h5.stable hg⟩
section
variable {Q : Exit → Act → World → Prop} {o : Oper} {d : Tmp} {a : Act} {w w1 : World} {g p k : Nat} {key : Int}
/-- What an operation of the statement leaves. -/
def GoesP (D0 D g p k : Nat) (key : Int) (d : Tmp) (a : Act) (w : World) (a' : Act) (w' : World) : Prop :=
  ∃ v, a' = a.put (some d) v ∧ TP D g key d v w' ∧ w.grownBy w' (some g) ∧ ∃ p', p' ≤ p + (k + 1) ∧ Rd D0 w' g p'
theorem wp_valP {D0 D : Nat} {v : Value} (hd : o.dst = some d) (h : (execOp a.eval o).run Try.prog w = .ok (.value v) w1) (hT : TP D g key d v w1) (hg : w.grownBy w1 (some g)) (hr : ∃ p', p' ≤ p + k ∧ Rd D0 w1 g p') :
    Oper.wp Try.prog o a w (GoesP D0 D g p k key d a w) Q := by
  unfold Oper.wp
  rw [h]
  exact ⟨v, by rw [hd], hT, hg, let ⟨p', h1, h2⟩ := hr; ⟨p', by omega, h2⟩⟩
theorem ne_g {D0 : Nat} (hW : ∃ p', p' ≤ p + k ∧ Rd D0 w g p') : g < w.heap.size := let ⟨_, _, h⟩ := hW; h.lt
theorem wp_newP {D0 D : Nat} (xs : List Int) (hd : o.dst = some d) (h : (execOp a.eval o).run Try.prog w = .ok (.value (.slice (some ⟨w.heap.size, 0, none⟩) xs.length xs.length)) (w.alloc (.cells (ints xs) 3))) (hT : ∀ v w, HasL D g xs v w → TP D g key d v w)
    (hD : D ≤ w.heap.size) (hW : ∃ p', p' ≤ p + k ∧ Rd D0 w g p') : Oper.wp Try.prog o a w (GoesP D0 D g p k key d a w) Q := by
  have hg := ne_g hW
  refine wp_valP hd h (hT _ _ ⟨w.heap.size, rfl, hD, by omega, heap_alloc_new w _⟩) (grownBy_alloc _ _ _) ?_
  obtain ⟨p', h1, h2⟩ := hW
  exact ⟨p', h1, h2.keep (grownBy_alloc _ _ _)⟩
end
theorem notDst {ops : Array Oper} {n : Nat} {s : Tmp} (h : isDst ops n s = false) : ∀ j, j < n → dstOf ops j ≠ some s := fun j hj hjs => by
  have : isDst ops n s = true := List.any_eq_true.2 ⟨j, List.mem_range.2 hj, by simpa using hjs⟩
  rw [this] at h; cases h
theorem usesS_no {kd : Kd} {P : Prop} (h : usesS kd = false) : usesS kd = true → P := fun h' => by rw [h] at h'; cases h'
theorem env_pk {D B g : Nat} {kd : Kd} {a : Act} {w : World} (h : opndsK kd = [.tmp 45, .const (.int .i64 5)]) (h45 : a.tmps.getD 45 undef = .pointer (some ⟨g, 0, none⟩)) :
    ∀ x ∈ opndsK kd, (opndTy [(45, .rd)] x).Has D B g (a.eval x) w := by
  rw [h]
  intro x hx
  simp only [List.mem_cons, List.not_mem_nil, or_false] at hx
  rcases hx with rfl | rfl
  · exact h45
  · exact ⟨5, rfl, Int.le_refl _, Int.le_refl _⟩
theorem putL_tail {ops : Array Oper} {n : Nat} {ds : List Tmp} {a0 a : Act} (hds : ds = (List.range n).filterMap (dstOf ops)) (hsz : a.tmps.size = a0.tmps.size) (hdef : a.defers = a0.defers)
    (hfrm : ∀ s, (∀ j, j < n → dstOf ops j ≠ some s) → a.tmps.getD s undef = a0.tmps.getD s undef) : putL ds (fun d => a.tmps.getD d undef) a0 = a :=
  putL_eq hsz hdef fun s hs => hfrm s fun j hj hjs => hs (by rw [hds, List.mem_filterMap]; exact ⟨j, List.mem_range.2 hj, hjs⟩)
theorem run_bs5s (o : Oper) (ρ : Operand → Value) (w : World) (x0 x1 x2 x3 x4 : Operand) {b0 b1 b2 b3 b4 n0 n1 n2 n3 n4 : Nat} (ho : o.op = .buildSlice 80 5 #[(0, x0), (1, x1), (2, x2), (3, x3), (4, x4)])
    (h0 : ρ x0 = .slice (some ⟨b0, 0, none⟩) n0 n0) (h1 : ρ x1 = .slice (some ⟨b1, 0, none⟩) n1 n1) (h2 : ρ x2 = .slice (some ⟨b2, 0, none⟩) n2 n2) (h3 : ρ x3 = .slice (some ⟨b3, 0, none⟩) n3 n3) (h4 : ρ x4 = .slice (some ⟨b4, 0, none⟩) n4 n4) :
    (execOp ρ o).run Try.prog w = .ok (.value (.slice (some ⟨w.heap.size, 0, none⟩) 5 5)) (w.alloc (.cells #[.slice (some ⟨b0, 0, none⟩) n0 n0, .slice (some ⟨b1, 0, none⟩) n1 n1, .slice (some ⟨b2, 0, none⟩) n2 n2, .slice (some ⟨b3, 0, none⟩) n3 n3, .slice (some ⟨b4, 0, none⟩) n4 n4] 23)) := by
  simp [execOp, ho, h0, h1, h2, h3, h4, go_sem]
theorem run_ixs (o : Oper) (ρ : Operand → Value) (w : World) (x y : Operand) (b j : Nat) (hj : j < 5) (ho : o.op = .indexAddr 80 x y)
    (hx : ρ x = .slice (some ⟨b, 0, none⟩) 5 5) (hy : ρ y = .int .i64 j) : (execOp ρ o).run Try.prog w = .ok (.value (.pointer (some ⟨b, j, none⟩))) w := by
  simp [execOp, ho, hx, hy, go_sem]
  intro h; omega
theorem run_lds (o : Oper) (ρ : Operand → Value) (w : World) (x : Operand) (b j : Nat) (u : Value) (ho : o.op = .load 23 x)
    (hx : ρ x = .pointer (some ⟨b, j, none⟩)) (hc : w.cell? ⟨b, j, none⟩ = some u) : (execOp ρ o).run Try.prog w = .ok (.value u) w := by
  simp [execOp, ho, hx, hc, go_sem]
theorem dep_of {ops : Array Oper} {es : Array Edge} {s : Tmp} (h : (es.any fun e => Region.binds .any e && decide (dstOf ops e.on = some s)) = true) : ∃ e ∈ es, Region.binds .any e = true ∧ dstOf ops e.on = some s := by
  obtain ⟨e, he, hb⟩ := Array.any_eq_true'.1 h
  simp only [Bool.and_eq_true, decide_eq_true_eq] at hb
  exact ⟨e, he, hb.1, hb.2⟩
set_option maxHeartbeats 2000000 in
theorem s_DrawSplitPart (a : Option Addr) (len cap : Nat) (w : World) (hcl : len ≤ cap) (hcap : cap ≤ maxLen) (h : Code w.heap.size w a len) :
    Calls Try.prog 26 #[.slice a len cap] w (RetKL w) := by
  obtain ⟨i0, hi, hz0, hz1, hz2⟩ := info_parts infoInt8
  have HC := Lib.hid h
  clear h
  go_enter Try.func26, Try.ntmps26
  go_wp2_with fail
  refine (c_open (D := w.heap.size) a len cap _ hcl hcap (by simp) HC.out).mono ?_
  rintro e w1 ⟨g, rfl, hg, hr, hb⟩
  have HR := Lib.hid hr
  have HB := Lib.hid hb
  have hz := hb.size
  have hglt := hr.lt
  clear hr hb
  go_wp2_with fail
  refine (s_l20Key g 0 9 _ HR.out (by omega) (by omega) (by omega)).mono ?_
  rintro e w2 ⟨key, rfl, k1, k2, ⟨p2, hp2, hr2⟩, hg2⟩
  have HR2 := Lib.hid hr2
  have HG2 := Lib.hid hg2
  have hzz := hg2.size
  clear hr2 hg2
  generalize hB0 : w1.heap.size = B0 at *
  go_wp2_with fail
  refine (c_pick g p2 4 _ (HR2.out.keep (grownBy_alloc _ _ _)) (by omega) (by omega) (by omega)).mono ?_
  rintro e w3 ⟨x, rfl, x0, x1, _, hr3, hg3⟩
  have x1 := x1 (by omega)
  obtain ⟨j0, rfl⟩ := Int.eq_ofNat_of_zero_le x0
  have HR3 := Lib.hid hr3
  have HG3 := Lib.hid (grownBy_tr (gb_alloc HG2.out (.cells #[] 3)) hg3)
  have HO3 := Lib.hid (((own_empty w2).mono (by omega : B0 ≤ w2.heap.size)).kept hg3 (.inr (by simp [Value.ownBlock]; omega)))
  clear hr3 hg3
  go_wp2
  go_loopw [6, 7, 8] (fun v t i wr => ∃ (j q b cap : Nat) (xs : List Int) (left : Int), v = .slice (some ⟨b, 0, none⟩) xs.length cap ∧ i = .int .i64 j ∧ t = .int .i64 left ∧ 0 ≤ left ∧ left ≤ 100 ∧ xs.length + j ≤ 3 ∧ q ≤ 5 + xs.length ∧ (∀ x ∈ xs, -1 ≤ x ∧ x ≤ 101) ∧
    wr.ownsRow B0 3 1 (.slice (some ⟨b, 0, none⟩) xs.length cap) xs.length (xs.map (Value.int .i64)) ∧ Rd w.heap.size wr g q ∧ w1.grownBy wr (some g)) (fun _ _ i _ => (intOf i).toNat)
  case atStart => exact ⟨j0, p2 + 1, w2.heap.size, 0, [], 100, rfl, rfl, rfl, by omega, by omega, by simp; omega, by simp; omega, by simp, HO3.out, HR3.out, HG3.out⟩
  case round =>
    obtain ⟨j, q, b, c, xs, left, rfl, rfl, rfl, n0, n1, hj, hq, hx, hown, hr3, hgr⟩ := hrel
    have HX := Lib.hid hx
    have HO4 := Lib.hid hown
    have HR4 := Lib.hid hr3
    have HG4 := Lib.hid hgr
    obtain ⟨hbl, _⟩ := hown.lt b rfl
    clear hown hgr hr3 hx HO3 HG3 HR3
    by_cases hlt : 0 < j
    · go_wp2_with fail
      refine (c_pick g q (left + 1) _ HR4.out (by omega) (by omega) (by omega)).mono ?_
      rintro e w3 ⟨x, rfl, y0, y1, _, hr4, hg4⟩
      have y1 := y1 (by omega)
      have HR5 := Lib.hid hr4
      have HG5 := Lib.hid (grownBy_tr HG4.out hg4)
      have HO5 := Lib.hid (HO4.out.kept hg4 (.inr (by simp [Value.ownBlock]; omega)))
      have z5 : B0 ≤ w3.heap.size := by have := HG5.out.size; omega
      clear hr4 hg4
      go_wp2_with (at_builtin; refine wpList_append_lies _ rfl (.tmp 25) (.tmp 27) 23 rfl B0 3 i0 (.int .i64 0) 1 8 Try.underlying23 hi hz0 hz1 hz2 rfl (by decide) _ _ _ rfl (HO5.out.alloc _) _ 1 1 [.int .i64 x] rfl rfl (news_one _ _ _) (one_cell x) (by decide) ?c1 ?c2 ?c3 _ rfl ?c4)
      case c1 => unfold maxLen; omega
      case c2 => omega
      case c3 => simp; omega
      case c4 =>
        intro b' cap' w6 hown hgrow hat hlt6
        have HR6 := Lib.hid ((HR5.out.keep (grownBy_alloc _ _ _)).far (b := b) hgrow (by omega) (by omega))
        have HG6 := Lib.hid (gb_own (b := b) (gb_alloc HG5.out _) hgrow (by omega))
        have HO6 := Lib.hid hown
        clear hown hgrow hat
        go_wp2
        go_roundw
        case rel =>
          refine ⟨j - 1, q + 1, b', cap', xs ++ [x], left - x, by simp, by go_num, rfl, by omega, by omega, by simp; omega, by simp only [List.length_append, List.length_cons, List.length_nil]; omega, in_snoc HX.out (by omega) (by omega), ?_, HR6.out, HG6.out⟩
          have := HO6.out
          simpa using this
        case measure => simp [intOf]; omega
    · have z4 := HG4.out.size
      go_wp2_with (at_builtin; refine wpList_append_lies _ rfl (.tmp 32) (.tmp 34) 23 rfl B0 3 i0 (.int .i64 0) 1 8 Try.underlying23 hi hz0 hz1 hz2 rfl (by decide) _ _ _ rfl (HO4.out.alloc _) _ 1 1 [.int .i64 left] rfl rfl (news_one _ _ _) (one_cell left) (by decide) ?c1 ?c2 ?c3 _ rfl ?c4)
      case c1 => unfold maxLen; omega
      case c2 => omega
      case c3 => simp; omega
      case c4 =>
        intro b' cap' w6 hown hgrow hat hlt6
        have HR6 := Lib.hid ((HR4.out.keep (grownBy_alloc _ _ _)).far (b := b) hgrow (by omega) (by omega))
        have HG6 := Lib.hid (gb_own (b := b) (gb_alloc HG4.out _) hgrow (by omega))
        have hl6 : (xs ++ [left]).length = xs.length + 1 := by simp
        rw [show xs.map (Value.int .i64) ++ [Value.int .i64 left] = (xs ++ [left]).map (Value.int .i64) from by simp, ← hl6] at hown
        have HO6 := Lib.hid hown
        have HX6 := Lib.hid (in_snoc (k := left) HX.out (by omega) (by omega))
        rw [← hl6]
        have hl7 : (xs ++ [left]).length ≤ 4 := by omega
        obtain ⟨hbl', _⟩ := HO6.out.lt b' rfl
        clear hown hgrow hat HR4 HG4 HO4 HX hl6
        generalize xs ++ [left] = ys at *
        go_wp2_with fail
        refine (c_odd g q 6 _ HR6.out (by omega) (by omega) (by omega)).mono ?_
        rintro e w7 ⟨od, rfl, ⟨q7, hq7, hr7⟩, hg7⟩
        have HR7 := Lib.hid hr7
        have HG7 := Lib.hid (grownBy_tr HG6.out hg7)
        have HO7 := Lib.hid (HO6.out.kept hg7 (.inr (by simp [Value.ownBlock]; omega)))
        clear hr7 hg7
        cases od
        · go_wp2_with fail
          refine bodyPost_ret (v := .tuple #[.int .i64 key, .slice (some ⟨b', 0, none⟩) ys.length cap']) (by simp [results, Try.results26, go_sem]) rfl ?_
          exact ⟨key, b', cap', ys, rfl, k1, k2, by omega, HX6.out, ownsRow.ints HO7.out, HB.out.trans (gb_below HG7.out (by omega) (by omega))⟩
        · go_wp2_with fail
          refine region_typed (by kernel_rfl) _ 12 51 g rfl (by kernel_rfl) (TP w.heap.size g key) (fun k W => ∃ p', p' ≤ q7 + k ∧ Rd w.heap.size W g p') (fun d v w w' h hg => h.stable hg) ⟨q7, Nat.le_refl _, HR7.out⟩ ?_ ?_
          · have hDz : w.heap.size ≤ w7.heap.size := by have := HG7.out.size; omega
            simp only [List.take_succ_cons, List.take_zero, AllOps]
            refine ⟨?_, ?_, ?_, ?_, ?_, ?_, ?_, ?_, ?_, ?_, ?_, ?_, trivial⟩
            all_goals
              intro d hd k a W hk hdef hfrm hdep hgr hW
              injection hd with hd
              subst hd
              have hDW : w.heap.size ≤ W.heap.size := Nat.le_trans hDz hgr.size
            · have h5 := hfrm 5 (notDst (by kernel_rfl))
              refine wp_valP (v := .int .i64 key) rfl ?_ (by simp [TP]) (grownBy_rfl _ _) hW
              simp only [execOp, Act.eval, h5]; rfl
            · exact wp_newP l0 rfl (by simp [execOp, ints, l0, go_sem]) (fun v w h => by simpa [TP] using h) hDW hW
            · exact wp_newP l1 rfl (by simp [execOp, ints, l1, go_sem]) (fun v w h => by simpa [TP] using h) hDW hW
            · exact wp_newP l2 rfl (by simp [execOp, ints, l2, go_sem]) (fun v w h => by simpa [TP] using h) hDW hW
            · exact wp_newP l3 rfl (by simp [execOp, ints, l3, go_sem]) (fun v w h => by simpa [TP] using h) hDW hW
            · exact wp_newP l4 rfl (by simp [execOp, ints, l4, go_sem]) (fun v w h => by simpa [TP] using h) hDW hW
            · have h0 := hdep 39 (dep_of (by kernel_rfl))
              have h1 := hdep 40 (dep_of (by kernel_rfl))
              have h2 := hdep 41 (dep_of (by kernel_rfl))
              have h3 := hdep 42 (dep_of (by kernel_rfl))
              have h4 := hdep 43 (dep_of (by kernel_rfl))
              simp only [TP] at h0 h1 h2 h3 h4
              have hgl := ne_g hW
              generalize e0 : a.tmps.getD 39 undef = v0 at h0
              generalize e1 : a.tmps.getD 40 undef = v1 at h1
              generalize e2 : a.tmps.getD 41 undef = v2 at h2
              generalize e3 : a.tmps.getD 42 undef = v3 at h3
              generalize e4 : a.tmps.getD 43 undef = v4 at h4
              have gr : W.grownBy (W.alloc (.cells #[v0, v1, v2, v3, v4] 23)) (some g) := grownBy_alloc _ _ _
              refine wp_valP (w1 := W.alloc (.cells #[v0, v1, v2, v3, v4] 23)) (v := .slice (some ⟨W.heap.size, 0, none⟩) 5 5) rfl ?_ ?_ gr ?_
              · obtain ⟨b0, rfl, _⟩ := h0
                obtain ⟨b1, rfl, _⟩ := h1
                obtain ⟨b2, rfl, _⟩ := h2
                obtain ⟨b3, rfl, _⟩ := h3
                obtain ⟨b4, rfl, _⟩ := h4
                exact run_bs5s _ _ _ _ _ _ _ _ rfl e0 e1 e2 e3 e4
              · simp only [TP]
                exact ⟨W.heap.size, v0, v1, v2, v3, v4, rfl, hDW, by omega, heap_alloc_new _ _, h0.stable gr, h1.stable gr, h2.stable gr, h3.stable gr, h4.stable gr⟩
              · obtain ⟨p', q1, q2⟩ := hW
                exact ⟨p', q1, q2.keep (grownBy_alloc _ _ _)⟩
            · have h4 := hfrm 4 (notDst (by kernel_rfl))
              refine wp_valP (v := .pointer (some ⟨g, 0, none⟩)) rfl ?_ (by simp [TP]) (grownBy_rfl _ _) hW
              simp only [execOp, Act.eval, h4]; rfl
            · have h45 := hdep 45 (dep_of (by kernel_rfl))
              simp only [TP] at h45
              refine Oper.wp_mono (fun a' w' hh => ?_) (kd_sound (D0 := w.heap.size) (D := w.heap.size) (B := 0) (S := 0) (l := [(45, .rd)]) (g := g) (p := q7) (k := k) (t := .int 0 4) (d := 46) rfl (by kernel_rfl) (usesS_no (by kernel_rfl)) (env_pk (by kernel_rfl) h45) hW (by omega) (Nat.zero_le _) HR7.out.1)
              obtain ⟨v, e1, ⟨x, e2, e3, e4⟩, e5, e6⟩ := hh
              exact ⟨v, e1, by simp only [TP]; exact ⟨x, e2, e3, e4⟩, e5, e6⟩
            · have h44 := hdep 44 (dep_of (by kernel_rfl))
              have h46 := hdep 46 (dep_of (by kernel_rfl))
              simp only [TP] at h44 h46
              obtain ⟨b5, v0, v1, v2, v3, v4, e1, _, hne, hh, k0, k1, k2, k3, k4⟩ := h44
              obtain ⟨x, e2, x1, x2⟩ := h46
              have hx : x = 0 ∨ x = 1 ∨ x = 2 ∨ x = 3 ∨ x = 4 := by omega
              rcases hx with rfl | rfl | rfl | rfl | rfl
              · refine wp_valP (v := .pointer (some ⟨b5, 0, none⟩)) rfl (run_ixs _ _ _ _ _ _ _ (by decide) rfl e1 e2) ?_ (grownBy_rfl _ _) hW
                simp only [TP]
                exact ⟨b5, 0, v0, rfl, hne, lt_of_heap hh, cell_of_row W b5 0 _ _ _ hh, .inl k0⟩
              · refine wp_valP (v := .pointer (some ⟨b5, 1, none⟩)) rfl (run_ixs _ _ _ _ _ _ _ (by decide) rfl e1 e2) ?_ (grownBy_rfl _ _) hW
                simp only [TP]
                exact ⟨b5, 1, v1, rfl, hne, lt_of_heap hh, cell_of_row W b5 1 _ _ _ hh, .inr (.inl k1)⟩
              · refine wp_valP (v := .pointer (some ⟨b5, 2, none⟩)) rfl (run_ixs _ _ _ _ _ _ _ (by decide) rfl e1 e2) ?_ (grownBy_rfl _ _) hW
                simp only [TP]
                exact ⟨b5, 2, v2, rfl, hne, lt_of_heap hh, cell_of_row W b5 2 _ _ _ hh, .inr (.inr (.inl k2))⟩
              · refine wp_valP (v := .pointer (some ⟨b5, 3, none⟩)) rfl (run_ixs _ _ _ _ _ _ _ (by decide) rfl e1 e2) ?_ (grownBy_rfl _ _) hW
                simp only [TP]
                exact ⟨b5, 3, v3, rfl, hne, lt_of_heap hh, cell_of_row W b5 3 _ _ _ hh, .inr (.inr (.inr (.inl k3)))⟩
              · refine wp_valP (v := .pointer (some ⟨b5, 4, none⟩)) rfl (run_ixs _ _ _ _ _ _ _ (by decide) rfl e1 e2) ?_ (grownBy_rfl _ _) hW
                simp only [TP]
                exact ⟨b5, 4, v4, rfl, hne, lt_of_heap hh, cell_of_row W b5 4 _ _ _ hh, .inr (.inr (.inr (.inr k4)))⟩
            · have h47 := hdep 47 (dep_of (by kernel_rfl))
              simp only [TP] at h47
              obtain ⟨b5, j5, u, e1, hne, hlt5, hc, hone⟩ := h47
              refine wp_valP (v := u) rfl ?_ (by simp only [TP]; exact hone) (grownBy_rfl _ _) hW
              exact run_lds _ _ _ _ _ _ _ rfl e1 hc
            · have h38 := hdep 38 (dep_of (by kernel_rfl))
              simp only [TP, true_or, if_true] at h38
              refine wp_valP (v := .int .i64 key) rfl ?_ (by simp [TP]) (grownBy_rfl _ _) hW
              simp only [execOp, Act.eval, h38]; rfl
          · intro a W hsz hdef hfrm htyp hgr hW
            have hpe := putL_tail (ds := [38, 39, 40, 41, 42, 43, 44, 45, 46, 47, 48, 2]) (by kernel_rfl) hsz hdef hfrm
            have h2 : a.tmps.getD 2 undef = .int .i64 key := htyp 11 2 (by omega) (by kernel_rfl)
            have h48 : OneOf w.heap.size g (a.tmps.getD 48 undef) W := htyp 10 48 (by omega) (by kernel_rfl)
            rw [← hpe]
            clear hpe htyp hfrm
            generalize hf : (fun d => a.tmps.getD d undef) = f
            have e2 : f 2 = .int .i64 key := by rw [← hf]; exact h2
            have e48 : OneOf w.heap.size g (f 48) W := by rw [← hf]; exact h48
            have HGW := Lib.hid (grownBy_tr HG7.out (grownBy_tr (⟨rfl, rfl, rfl, Nat.le_refl _, fun _ _ _ => rfl⟩ : w7.grownBy w7.drew (some g)) hgr))
            clear hf h2 h48 hsz hdef hgr hW
            rcases e48 with ⟨b6, e6, hD6, hn6, hh6⟩ | ⟨b6, e6, hD6, hn6, hh6⟩ | ⟨b6, e6, hD6, hn6, hh6⟩ | ⟨b6, e6, hD6, hn6, hh6⟩ | ⟨b6, e6, hD6, hn6, hh6⟩
            · have e7 : f 48 = .slice (some ⟨b6, 0, none⟩) 0 0 := e6
              simp only [List.drop_succ_cons, List.drop_zero, putL, Act.put, List.setIfInBounds_toArray, List.set_cons_succ, List.set_cons_zero, e2, e7]
              have HH := Lib.hid hh6
              clear e6 e7 e2 hh6
              go_wp2_with fail
              refine bodyPost_ret (v := .tuple #[.int .i64 key, .slice (some ⟨b6, 0, none⟩) 0 0]) (by simp [results, Try.results26, go_sem]) rfl ?_
              refine ⟨key, b6, 0, l0, rfl, k1, k2, by decide, by decide, .inr ⟨b6, 0, rfl, lt_of_heap HH.out, fun i hi => ?_⟩, HB.out.trans (gb_below HGW.out (by omega) (by omega))⟩
              have := cell_of_row W b6 (0 + i) _ _ _ HH.out
              rw [this, Nat.zero_add]
              simp only [ints, List.getElem?_toArray]
              rw [List.getElem?_map, getD_of_lt hi]; rfl
            · have e7 : f 48 = .slice (some ⟨b6, 0, none⟩) 2 2 := e6
              simp only [List.drop_succ_cons, List.drop_zero, putL, Act.put, List.setIfInBounds_toArray, List.set_cons_succ, List.set_cons_zero, e2, e7]
              have HH := Lib.hid hh6
              clear e6 e7 e2 hh6
              go_wp2_with fail
              refine bodyPost_ret (v := .tuple #[.int .i64 key, .slice (some ⟨b6, 0, none⟩) 2 2]) (by simp [results, Try.results26, go_sem]) rfl ?_
              refine ⟨key, b6, 2, l1, rfl, k1, k2, by decide, by decide, .inr ⟨b6, 0, rfl, lt_of_heap HH.out, fun i hi => ?_⟩, HB.out.trans (gb_below HGW.out (by omega) (by omega))⟩
              have := cell_of_row W b6 (0 + i) _ _ _ HH.out
              rw [this, Nat.zero_add]
              simp only [ints, List.getElem?_toArray]
              rw [List.getElem?_map, getD_of_lt hi]; rfl
            · have e7 : f 48 = .slice (some ⟨b6, 0, none⟩) 2 2 := e6
              simp only [List.drop_succ_cons, List.drop_zero, putL, Act.put, List.setIfInBounds_toArray, List.set_cons_succ, List.set_cons_zero, e2, e7]
              have HH := Lib.hid hh6
              clear e6 e7 e2 hh6
              go_wp2_with fail
              refine bodyPost_ret (v := .tuple #[.int .i64 key, .slice (some ⟨b6, 0, none⟩) 2 2]) (by simp [results, Try.results26, go_sem]) rfl ?_
              refine ⟨key, b6, 2, l2, rfl, k1, k2, by decide, by decide, .inr ⟨b6, 0, rfl, lt_of_heap HH.out, fun i hi => ?_⟩, HB.out.trans (gb_below HGW.out (by omega) (by omega))⟩
              have := cell_of_row W b6 (0 + i) _ _ _ HH.out
              rw [this, Nat.zero_add]
              simp only [ints, List.getElem?_toArray]
              rw [List.getElem?_map, getD_of_lt hi]; rfl
            · have e7 : f 48 = .slice (some ⟨b6, 0, none⟩) 2 2 := e6
              simp only [List.drop_succ_cons, List.drop_zero, putL, Act.put, List.setIfInBounds_toArray, List.set_cons_succ, List.set_cons_zero, e2, e7]
              have HH := Lib.hid hh6
              clear e6 e7 e2 hh6
              go_wp2_with fail
              refine bodyPost_ret (v := .tuple #[.int .i64 key, .slice (some ⟨b6, 0, none⟩) 2 2]) (by simp [results, Try.results26, go_sem]) rfl ?_
              refine ⟨key, b6, 2, l3, rfl, k1, k2, by decide, by decide, .inr ⟨b6, 0, rfl, lt_of_heap HH.out, fun i hi => ?_⟩, HB.out.trans (gb_below HGW.out (by omega) (by omega))⟩
              have := cell_of_row W b6 (0 + i) _ _ _ HH.out
              rw [this, Nat.zero_add]
              simp only [ints, List.getElem?_toArray]
              rw [List.getElem?_map, getD_of_lt hi]; rfl
            · have e7 : f 48 = .slice (some ⟨b6, 0, none⟩) 11 11 := e6
              simp only [List.drop_succ_cons, List.drop_zero, putL, Act.put, List.setIfInBounds_toArray, List.set_cons_succ, List.set_cons_zero, e2, e7]
              have HH := Lib.hid hh6
              clear e6 e7 e2 hh6
              go_wp2_with fail
              refine bodyPost_ret (v := .tuple #[.int .i64 key, .slice (some ⟨b6, 0, none⟩) 11 11]) (by simp [results, Try.results26, go_sem]) rfl ?_
              refine ⟨key, b6, 11, l4, rfl, k1, k2, by decide, by decide, .inr ⟨b6, 0, rfl, lt_of_heap HH.out, fun i hi => ?_⟩, HB.out.trans (gb_below HGW.out (by omega) (by omega))⟩
              have := cell_of_row W b6 (0 + i) _ _ _ HH.out
              rw [this, Nat.zero_add]
              simp only [ints, List.getElem?_toArray]
              rw [List.getElem?_map, getD_of_lt hi]; rfl
end Go.Proofs.Ytdpmlkigmadajaa
