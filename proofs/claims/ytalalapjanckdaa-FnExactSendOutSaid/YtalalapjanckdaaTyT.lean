/- The checker is right, and a drawn region that it accepts leaves values of the types that it gives. -/
import Derived.Test.YtalalapjanckdaaTyK
namespace Go.Proofs.Ytalalapjanckdaa
open Go.RowKit
variable {D D0 B : Nat}
section
variable {Q : Exit → Act → World → Prop} {S : TypeId} {l : List (Tmp × Ty)} {g p k : Nat} {o : Oper} {t : Ty} {d : Tmp} {a : Act} {w : World}
def Goes (D0 D B : Nat) (t : Ty) (d : Tmp) (g p k : Nat) (a : Act) (w : World) (a' : Act) (w' : World) : Prop := ∃ v, a' = a.put (some d) v ∧ t.Has D B g v w' ∧ w.grownBy w' (some g) ∧ ∃ p', p' ≤ p + (k + 1) ∧ Rd D0 w' g p'
theorem wp_val {v : Value} {w1 : World} (hd : o.dst = some d) (h : (execOp a.eval o).run Try.prog w = .ok (.value v) w1) (hT : t.Has D B g v w1) (hg : w.grownBy w1 (some g)) (hr : ∃ p', p' ≤ p + (k + 1) ∧ Rd D0 w1 g p') :
    Oper.wp Try.prog o a w (Goes D0 D B t d g p k a w) Q := by
  unfold Oper.wp
  rw [h]
  exact ⟨v, by rw [hd], hT, hg, hr⟩
theorem wp_val' {v : Value} (hd : o.dst = some d) (h : (execOp a.eval o).run Try.prog w = .ok (.value v) w) (hT : t.Has D B g v w) (hr : ∃ p', p' ≤ p + k ∧ Rd D0 w g p') :
    Oper.wp Try.prog o a w (Goes D0 D B t d g p k a w) Q :=
  wp_val hd h hT (grownBy_rfl _ _) (let ⟨p', h1, h2⟩ := hr; ⟨p', by omega, h2⟩)
theorem asInts_cons {i : Nat} {x : Operand} {r : List (Nat × Operand)} {j : Nat} {q : List (Int × Int)} (h : asInts l ((i, x) :: r) j = some q) :
    i = j ∧ ∃ lo hi q', opndTy l x = .int lo hi ∧ asInts l r (j + 1) = some q' ∧ q = (lo, hi) :: q' := by
  simp only [asInts] at h
  split at h
  · rename_i hij
    refine ⟨hij, ?_⟩
    split at h
    · rename_i lo hi q' e1 e2
      injection h with h
      exact ⟨lo, hi, q', e1, e2, h.symm⟩
    · cases h
  · cases h
theorem alloc_new (w : World) (xs : List Int) (e : TypeId) : (w.alloc (.cells (ints xs) e)).heap[w.heap.size]? = some (.cells (ints xs) e (0, 0)) := heap_alloc_new w _
theorem kd_sound (hd : o.dst = some d) (hk : tyK S l (kindOf S o) = some t) (hS : usesS (kindOf S o) = true → SOk S) (henv : ∀ x ∈ opndsK (kindOf S o), (opndTy l x).Has D B g (a.eval x) w)
    (hW : ∃ p', p' ≤ p + k ∧ Rd D0 w g p') (hp : p + k ≤ 100000) (hB : B ≤ w.heap.size) (hDg : D ≤ g) : Oper.wp Try.prog o a w (Goes D0 D B t d g p k a w) Q := by
  have hglt : g < w.heap.size := by obtain ⟨p', _, h⟩ := hW; exact h.lt
  generalize hkd : kindOf S o = kd at hk henv hS
  cases kd with
  | no => cases hk
  | mv x =>
    simp only [tyK, Option.some.injEq] at hk
    subst hk
    have hx := henv x (by simp [opndsK])
    refine wp_val' hd (v := a.eval x) ?_ hx hW
    rcases kind_mv hkd with ho | ho <;> simp [execOp, ho, Sem.run_pure]
  | pk x y =>
    simp only [tyK] at hk
    split at hk
    · rename_i hrd
      split at hk
      · rename_i lo hi hy
        split at hk
        · rename_i hb
          obtain ⟨hb1, hb2⟩ := hb
          unfold big at hb2
          injection hk with hk
          subst hk
          have hx := henv x (by simp [opndsK])
          have hy' := henv y (by simp [opndsK])
          rw [hrd] at hx
          rw [hy] at hy'
          obtain ⟨n, hn, n1, n2⟩ := hy'
          obtain ⟨c, ho, hc, ha⟩ := kind_pk hkd
          have hrun := run_pk o a.eval w c x y _ _ ho hc ha rfl hx hn
          unfold Oper.wp
          rw [hrun]
          obtain ⟨p', hp', hr⟩ := hW
          refine (c_pick g p' n w hr (by omega) (by omega) (by omega)).mono ?_
          rintro e w' ⟨z, rfl, z0, z1, z2, hr', hg'⟩
          exact ⟨_, by rw [hd], ⟨z, rfl, z0, by have := z1 (by omega); omega⟩, hg', p' + 1, by omega, hr'⟩
        · cases hk
      · cases hk
    · cases hk
  | mul x y =>
    simp only [tyK] at hk
    split at hk
    · rename_i b1 b2 c1 c2 hx hy
      split at hk
      case isFalse => cases hk
      rename_i hcc
      obtain ⟨h0, h1, h2⟩ := hcc
      subst h1
      have hx' := henv x (by simp [opndsK])
      have hy' := henv y (by simp [opndsK])
      rw [hx] at hx'
      rw [hy] at hy'
      obtain ⟨m, hm, m1, m2⟩ := hx'
      obtain ⟨n, hn, n1, n2⟩ := hy'
      obtain ⟨u, ho⟩ := kind_mul hkd
      unfold rng big at hk
      split at hk
      · rename_i hr
        obtain ⟨r1, r2⟩ := hr
        injection hk with hk
        subst hk
        obtain rfl : n = c1 := by omega
        have q1 : b1 * n ≤ m * n := Int.mul_le_mul_of_nonneg_right m1 h2
        have q2 : m * n ≤ b2 * n := Int.mul_le_mul_of_nonneg_right m2 h2
        refine wp_val' hd ((run_bin o a.eval w x y m n u hm hn).1 ho) ⟨m * n, ?_, q1, q2⟩ hW
        rw [IntWalk.i64_in _ (by omega)]
      · cases hk
    · cases hk
  | add x y =>
    simp only [tyK] at hk
    split at hk
    · rename_i b1 b2 c1 c2 hx hy
      have hx' := henv x (by simp [opndsK])
      have hy' := henv y (by simp [opndsK])
      rw [hx] at hx'
      rw [hy] at hy'
      obtain ⟨m, hm, m1, m2⟩ := hx'
      obtain ⟨n, hn, n1, n2⟩ := hy'
      obtain ⟨u, ho⟩ := kind_add hkd
      unfold rng big at hk
      split at hk
      · rename_i hr
        obtain ⟨r1, r2⟩ := hr
        injection hk with hk
        subst hk
        refine wp_val' hd ((run_bin o a.eval w x y m n u hm hn).2.1 ho) ⟨m + n, ?_, by omega, by omega⟩ hW
        rw [IntWalk.i64_in _ (by omega)]
      · cases hk
    · cases hk
  | sub x y =>
    simp only [tyK] at hk
    split at hk
    · rename_i b1 b2 c1 c2 hx hy
      have hx' := henv x (by simp [opndsK])
      have hy' := henv y (by simp [opndsK])
      rw [hx] at hx'
      rw [hy] at hy'
      obtain ⟨m, hm, m1, m2⟩ := hx'
      obtain ⟨n, hn, n1, n2⟩ := hy'
      obtain ⟨u, ho⟩ := kind_sub hkd
      unfold rng big at hk
      split at hk
      · rename_i hr
        obtain ⟨r1, r2⟩ := hr
        injection hk with hk
        subst hk
        refine wp_val' hd ((run_bin o a.eval w x y m n u hm hn).2.2.1 ho) ⟨m - n, ?_, by omega, by omega⟩ hW
        rw [IntWalk.i64_in _ (by omega)]
      · cases hk
    · cases hk
  | quo x y =>
    simp only [tyK] at hk
    split at hk
    · rename_i b1 b2 c1 c2 hx hy
      split at hk
      case isFalse => cases hk
      rename_i hcc
      obtain ⟨h0, h1, h2⟩ := hcc
      subst h1
      have hx' := henv x (by simp [opndsK])
      have hy' := henv y (by simp [opndsK])
      rw [hx] at hx'
      rw [hy] at hy'
      obtain ⟨m, hm, m1, m2⟩ := hx'
      obtain ⟨n, hn, n1, n2⟩ := hy'
      obtain ⟨u, ho⟩ := kind_quo hkd
      unfold rng big at hk
      split at hk
      · rename_i hr
        obtain ⟨r1, r2⟩ := hr
        injection hk with hk
        subst hk
        obtain rfl : n = c1 := by omega
        have q1 : b1 / n ≤ m / n := Int.ediv_le_ediv (by omega) m1
        have q2 : m / n ≤ b2 / n := Int.ediv_le_ediv (by omega) m2
        refine wp_val' hd ((run_bin o a.eval w x y m n u hm hn).2.2.2.2 ho (by omega)) ⟨m / n, ?_, q1, q2⟩ hW
        have q0 : 0 ≤ b1 / n := Int.ediv_nonneg h0 (by omega)
        rw [Int.tdiv_eq_ediv_of_nonneg (by omega), IntWalk.i64_in _ (by omega)]
      · cases hk
    · cases hk
  | eql x y =>
    simp only [tyK] at hk
    split at hk
    · rename_i b1 b2 c1 c2 hx hy
      have hx' := henv x (by simp [opndsK])
      have hy' := henv y (by simp [opndsK])
      rw [hx] at hx'
      rw [hy] at hy'
      obtain ⟨m, hm, m1, m2⟩ := hx'
      obtain ⟨n, hn, n1, n2⟩ := hy'
      obtain ⟨u, ho⟩ := kind_eql hkd
      injection hk with hk
      subst hk
      exact wp_val' hd ((run_bin o a.eval w x y m n u hm hn).2.2.2.1 ho) ⟨_, rfl⟩ hW
    · cases hk
  | bs n ps =>
    simp only [tyK] at hk
    split at hk
    · rename_i q hq
      split at hk
      · rename_i hqn
        obtain ⟨hqn, hn1, hn8⟩ := hqn
        injection hk with hk
        subst hk
        obtain ⟨⟨qs⟩, ho, rfl⟩ := kind_bs hkd
        simp only at hq henv
        have hfin : ∀ (xs : List Int), Bds q xs → xs.length = n → (execOp a.eval o).run Try.prog w = .ok (.value (.slice (some ⟨w.heap.size, 0, none⟩) n n)) (w.alloc (.cells (ints xs) 3)) →
            Oper.wp Try.prog o a w (Goes D0 D B (.sl q) d g p k a w) Q := by
          intro xs hb hl hrun
          refine wp_val hd hrun ⟨w.heap.size, xs, by rw [hqn], by omega, by omega, alloc_new w xs _, hb⟩ (grownBy_alloc _ _ _) ?_
          obtain ⟨p', hp', hr⟩ := hW
          exact ⟨p', by omega, hr.keep (grownBy_alloc _ _ _)⟩
        clear hW
        cases qs with
        | nil => simp only [asInts, Option.some.injEq] at hq; subst hq; simp at hqn; omega
        | cons z0 r0 =>
          obtain ⟨i0, x0⟩ := z0
          obtain ⟨rfl, lo0, hi0, q0, t0, hq0, rfl⟩ := asInts_cons hq
          have e0 := henv x0 (by simp [opndsK])
          rw [t0] at e0
          obtain ⟨m0, v0, a0, b0⟩ := e0
          cases r0 with
          | nil =>
            simp only [asInts, Option.some.injEq] at hq0
            subst hq0
            simp only [List.length_cons, List.length_nil] at hqn
            subst hqn
            exact hfin [m0] ⟨a0, b0, trivial⟩ rfl (run_bs1 o a.eval w x0 m0 ho v0)
          | cons z1 r1 =>
            obtain ⟨i1, x1⟩ := z1
            obtain ⟨rfl, lo1, hi1, q1, t1, hq1, rfl⟩ := asInts_cons hq0
            have e1 := henv x1 (by simp [opndsK])
            rw [t1] at e1
            obtain ⟨m1, v1, a1, b1⟩ := e1
            cases r1 with
            | nil =>
              simp only [asInts, Option.some.injEq] at hq1
              subst hq1
              simp only [List.length_cons, List.length_nil] at hqn
              subst hqn
              exact hfin [m0, m1] ⟨a0, b0, a1, b1, trivial⟩ rfl (run_bs2 o a.eval w x0 x1 m0 m1 ho v0 v1)
            | cons z2 r2 =>
              obtain ⟨i2, x2⟩ := z2
              obtain ⟨rfl, lo2, hi2, q2, t2, hq2, rfl⟩ := asInts_cons hq1
              have e2 := henv x2 (by simp [opndsK])
              rw [t2] at e2
              obtain ⟨m2, v2, a2, b2⟩ := e2
              cases r2 with
              | nil =>
                simp only [asInts, Option.some.injEq] at hq2
                subst hq2
                simp only [List.length_cons, List.length_nil] at hqn
                subst hqn
                exact hfin [m0, m1, m2] ⟨a0, b0, a1, b1, a2, b2, trivial⟩ rfl (run_bs3 o a.eval w x0 x1 x2 m0 m1 m2 ho v0 v1 v2)
              | cons z3 r3 =>
                obtain ⟨i3, x3⟩ := z3
                obtain ⟨rfl, lo3, hi3, q3, t3, hq3, rfl⟩ := asInts_cons hq2
                have e3 := henv x3 (by simp [opndsK])
                rw [t3] at e3
                obtain ⟨m3, v3, a3, b3⟩ := e3
                cases r3 with
                | nil =>
                  simp only [asInts, Option.some.injEq] at hq3
                  subst hq3
                  simp only [List.length_cons, List.length_nil] at hqn
                  subst hqn
                  exact hfin [m0, m1, m2, m3] ⟨a0, b0, a1, b1, a2, b2, a3, b3, trivial⟩ rfl (run_bs4 o a.eval w x0 x1 x2 x3 m0 m1 m2 m3 ho v0 v1 v2 v3)
                | cons z4 r4 =>
                  obtain ⟨i4, x4⟩ := z4
                  obtain ⟨rfl, lo4, hi4, q4, t4, hq4, rfl⟩ := asInts_cons hq3
                  have e4 := henv x4 (by simp [opndsK])
                  rw [t4] at e4
                  obtain ⟨m4, v4, a4, b4⟩ := e4
                  cases r4 with
                  | nil =>
                    simp only [asInts, Option.some.injEq] at hq4
                    subst hq4
                    simp only [List.length_cons, List.length_nil] at hqn
                    subst hqn
                    exact hfin [m0, m1, m2, m3, m4] ⟨a0, b0, a1, b1, a2, b2, a3, b3, a4, b4, trivial⟩ rfl (run_bs5 o a.eval w x0 x1 x2 x3 x4 m0 m1 m2 m3 m4 ho v0 v1 v2 v3 v4)
                  | cons z5 r5 =>
                    obtain ⟨i5, x5⟩ := z5
                    obtain ⟨rfl, lo5, hi5, q5, t5, hq5, rfl⟩ := asInts_cons hq4
                    have e5 := henv x5 (by simp [opndsK])
                    rw [t5] at e5
                    obtain ⟨m5, v5, a5, b5⟩ := e5
                    cases r5 with
                    | nil =>
                      simp only [asInts, Option.some.injEq] at hq5
                      subst hq5
                      simp only [List.length_cons, List.length_nil] at hqn
                      subst hqn
                      exact hfin [m0, m1, m2, m3, m4, m5] ⟨a0, b0, a1, b1, a2, b2, a3, b3, a4, b4, a5, b5, trivial⟩ rfl (run_bs6 o a.eval w x0 x1 x2 x3 x4 x5 m0 m1 m2 m3 m4 m5 ho v0 v1 v2 v3 v4 v5)
                    | cons z6 r6 =>
                      obtain ⟨i6, x6⟩ := z6
                      obtain ⟨rfl, lo6, hi6, q6, t6, hq6, rfl⟩ := asInts_cons hq5
                      have e6 := henv x6 (by simp [opndsK])
                      rw [t6] at e6
                      obtain ⟨m6, v6, a6, b6⟩ := e6
                      cases r6 with
                      | nil =>
                        simp only [asInts, Option.some.injEq] at hq6
                        subst hq6
                        simp only [List.length_cons, List.length_nil] at hqn
                        subst hqn
                        exact hfin [m0, m1, m2, m3, m4, m5, m6] ⟨a0, b0, a1, b1, a2, b2, a3, b3, a4, b4, a5, b5, a6, b6, trivial⟩ rfl (run_bs7 o a.eval w x0 x1 x2 x3 x4 x5 x6 m0 m1 m2 m3 m4 m5 m6 ho v0 v1 v2 v3 v4 v5 v6)
                      | cons z7 r7 =>
                        obtain ⟨i7, x7⟩ := z7
                        obtain ⟨rfl, lo7, hi7, q7, t7, hq7, rfl⟩ := asInts_cons hq6
                        have e7 := henv x7 (by simp [opndsK])
                        rw [t7] at e7
                        obtain ⟨m7, v7, a7, b7⟩ := e7
                        cases r7 with
                        | nil =>
                          simp only [asInts, Option.some.injEq] at hq7
                          subst hq7
                          simp only [List.length_cons, List.length_nil] at hqn
                          subst hqn
                          exact hfin [m0, m1, m2, m3, m4, m5, m6, m7] ⟨a0, b0, a1, b1, a2, b2, a3, b3, a4, b4, a5, b5, a6, b6, a7, b7, trivial⟩ rfl (run_bs8 o a.eval w x0 x1 x2 x3 x4 x5 x6 x7 m0 m1 m2 m3 m4 m5 m6 m7 ho v0 v1 v2 v3 v4 v5 v6 v7)
                        | cons z8 r8 =>
                          obtain ⟨i8, x8⟩ := z8
                          obtain ⟨rfl, lo8, hi8, q8, t8, hq8, rfl⟩ := asInts_cons hq7
                          simp only [List.length_cons] at hqn
                          omega
      · cases hk
    · cases hk
  | ix x y =>
    simp only [tyK] at hk
    split at hk
    · rename_i q lo hi hx hy
      split at hk
      · rename_i hb
        obtain ⟨hb1, hb2⟩ := hb
        injection hk with hk
        subst hk
        have hx' := henv x (by simp [opndsK])
        have hy' := henv y (by simp [opndsK])
        rw [hx] at hx'
        rw [hy] at hy'
        obtain ⟨b, xs, hv, hDb, hbg, hh, hbd⟩ := hx'
        obtain ⟨n, hn, n1, n2⟩ := hy'
        obtain ⟨j, rfl⟩ := Int.eq_ofNat_of_zero_le (show 0 ≤ n by omega)
        have hj : j < q.length := by omega
        obtain ⟨z, hz, z1, z2⟩ := hbd.get hj
        have hmem := getD_mem hj
        have l1 := minOf_le hmem
        have l2 := le_maxOf hmem
        refine wp_val' hd (run_ix o a.eval w x y b q.length j hj (kind_ix hkd) hv hn) ⟨b, j, z, rfl, hDb, hbg, lt_of_heap hh, ?_, by omega, by omega⟩ hW
        rw [cell_of_row w b j _ _ _ hh]
        simp [ints, hz]
      · cases hk
    · cases hk
  | ld x =>
    simp only [tyK] at hk
    split at hk
    · rename_i lo hi hx
      injection hk with hk
      subst hk
      have hx' := henv x (by simp [opndsK])
      rw [hx] at hx'
      obtain ⟨b, j, z, hv, _, hbg, hlt, hc, z1, z2⟩ := hx'
      exact wp_val' hd (run_ld o a.eval w x b j z (kind_ld hkd) hv hc) ⟨z, rfl, z1, z2⟩ hW
    · cases hk
  | ldS x =>
    have hs := hS rfl
    simp only [tyK] at hk
    split at hk
    · rename_i e p1 p2 hx
      split at hk
      · rename_i he
        subst he
        injection hk with hk
        subst hk
        have hx' := henv x (by simp [opndsK])
        rw [hx] at hx'
        obtain ⟨b, xs, hv, hDb, hbg, hh, hbd⟩ := hx'
        match xs, hbd with
        | [m, n], hbd =>
          refine wp_val' hd (hs.load o a.eval w x b m n (kind_ldS hkd) hv ?_ ?_) ⟨[m, n], rfl, hbd⟩ hW
          · rw [cell_of_row w b 0 _ _ _ hh]; rfl
          · rw [cell_of_row w b 1 _ _ _ hh]; rfl
      · cases hk
    · cases hk
  | fa x i =>
    have hs := hS rfl
    simp only [tyK] at hk
    split at hk
    · rename_i e p1 p2 hx
      have hx' := henv x (by simp [opndsK])
      rw [hx] at hx'
      obtain ⟨b, xs, hv, hDb, hbg, hh, hbd⟩ := hx'
      match xs, hbd with
      | [m, n], hbd =>
        obtain ⟨g1, g2, g3, g4, _⟩ := hbd
        split at hk
        · rename_i he
          obtain ⟨he, hi⟩ := he
          subst he hi
          injection hk with hk
          subst hk
          refine wp_val' hd (hs.field o a.eval w x b 0 (by omega) (kind_fa hkd) hv) ⟨b, 0, m, rfl, hDb, hbg, lt_of_heap hh, ?_, g1, g2⟩ hW
          rw [cell_of_row w b 0 _ _ _ hh]; rfl
        · split at hk
          · rename_i he
            obtain ⟨he, hi⟩ := he
            subst he hi
            injection hk with hk
            subst hk
            refine wp_val' hd (hs.field o a.eval w x b 1 (by omega) (kind_fa hkd) hv) ⟨b, 1, n, rfl, hDb, hbg, lt_of_heap hh, ?_, g3, g4⟩ hW
            rw [cell_of_row w b 1 _ _ _ hh]; rfl
          · cases hk
    · cases hk
  | bd ps =>
    have hs := hS rfl
    obtain ⟨⟨qs⟩, ho, rfl⟩ := kind_bd hkd
    simp only at hk henv
    simp only [tyK] at hk
    split at hk
    · rename_i p1 p2 hq
      injection hk with hk
      subst hk
      match qs, hq with
      | [], hq => simp [asInts] at hq
      | [(i0, x0)], hq =>
        obtain ⟨_, lo0, hi0, q0, t0, hq0, e0⟩ := asInts_cons hq
        simp only [asInts, Option.some.injEq] at hq0
        subst hq0
        simp at e0
      | (i0, x0) :: (i1, x1) :: r, hq =>
        obtain ⟨rfl, lo0, hi0, q0, t0, hq0, e0⟩ := asInts_cons hq
        obtain ⟨rfl, lo1, hi1, q1, t1, hq1, e1⟩ := asInts_cons hq0
        subst e1
        simp only [List.cons.injEq] at e0
        obtain ⟨rfl, rfl, rfl⟩ := e0
        cases r with
        | cons z r =>
          obtain ⟨i2, x2⟩ := z
          obtain ⟨_, lo2, hi2, q2, _, _, e2⟩ := asInts_cons hq1
          cases e2
        | nil =>
          have e0 := henv x0 (by simp [opndsK])
          have e1 := henv x1 (by simp [opndsK])
          rw [t0] at e0
          rw [t1] at e1
          obtain ⟨m0, v0, a0, b0⟩ := e0
          obtain ⟨m1, v1, a1, b1⟩ := e1
          exact wp_val' hd (hs.build o a.eval w x0 x1 m0 m1 ho v0 v1) ⟨[m0, m1], rfl, a0, b0, a1, b1, trivial⟩ hW
    · cases hk
  | al =>
    have hs := hS rfl
    simp only [tyK, Option.some.injEq] at hk
    subst hk
    refine wp_val hd (hs.alloc o a.eval w (kind_al hkd)) ⟨w.heap.size, [0, 0], rfl, by omega, by omega, by omega, alloc_new w _ _, by simp [Bds]⟩ (grownBy_alloc _ _ _) ?_
    obtain ⟨p', hp', hr⟩ := hW
    exact ⟨p', by omega, hr.keep (grownBy_alloc _ _ _)⟩
end
end Go.Proofs.Ytalalapjanckdaa
