/- Contract of the reference's BreakerRun. No condition but a list of at most 2^20 numbers. -/
import Derived.Test.YtdpmlkigmadajaaBrkR
namespace Go.Proofs.Ytdpmlkigmadajaa
open Go.RowKit
/-- A store into another block leaves an owned row. -/
theorem row_far {w : World} {base n cap b : Nat} {e : TypeId} {size : Nat} {vs : List Value} {p : Addr} (h : w.ownsRow base e size (.slice (some ⟨b, 0, none⟩) n cap) n vs) (hp : b ≠ p.block) (u : Value) : (w.setCell p u).ownsRow base e size (.slice (some ⟨b, 0, none⟩) n cap) n vs :=
  row_kept (r := some p.block) h ⟨rfl, rfl, rfl, by simp, fun k _ hk => heap_setCell_other w p k u (fun e => hk (by rw [e]))⟩ fun k hk e => by
    injection hk with hk
    injection e with e
    exact hp (hk.trans e.symm)
/-- Few calls, a limit and a pause. -/
def MP (n : Nat) (most pause : Int) : Prop := n ≤ 40 ∧ inB most 1 100 = true ∧ inB pause 1 100000 = true
theorem q_l1In (n lo hi : Int) (w : World) :
    Calls Try.prog 51 #[.int .i64 n, .int .i64 lo, .int .i64 hi] w fun e w' => e = .returned (.bool (inB n lo hi)) ∧ w' = w :=
  (c_l1In n lo hi w).mono fun _ _ ⟨h1, h2⟩ => ⟨h1, h2.symm⟩
/-- What the append needs: it stays while blocks come. -/
theorem held4_alloc {w w' : World} {g b o : Nat} {f u x : Int} (h : w'.cell? ⟨g, 0, none⟩ = some (.int .i64 f) ∧ w'.cell? ⟨g, 1, none⟩ = some (.int .i64 u) ∧ w'.cell? ⟨b, o, none⟩ = some (.int .i64 x) ∧ Below w.heap.size w w') (ob : Obj) :
    (w'.alloc ob).cell? ⟨g, 0, none⟩ = some (.int .i64 f) ∧ (w'.alloc ob).cell? ⟨g, 1, none⟩ = some (.int .i64 u) ∧ (w'.alloc ob).cell? ⟨b, o, none⟩ = some (.int .i64 x) ∧ Below w.heap.size w (w'.alloc ob) :=
  ⟨keep h.1 ob, keep h.2.1 ob, keep h.2.2.1 ob, h.2.2.2.alloc h.2.2.2.size ob⟩
theorem ret_emptyB (w w' : World) (xs : List Bool) (h : xs = []) (hb : Below w.heap.size w w') : RetRow w 4 1 xs.length (bools xs) (.returned (.slice (some ⟨w'.heap.size, 0, none⟩) 0 0)) (w'.alloc (.cells #[] 4)) := by
  subst h; exact ⟨_, 0, rfl, row_emp w' _ _ _ rfl hb.size, gb_al (below_grown hb) _⟩
set_option maxHeartbeats 2000000 in
theorem s_BreakerRun (a : Option Addr) (n cap : Nat) (xs : List Int) (most pause : Int) (w : World) (hxs : xs.length = n) (hn : n ≤ 1048576) (h : Ints w a xs) :
    Calls Try.prog 24 #[.slice a n cap, .int .i64 most, .int .i64 pause] w (RetRow w 4 1 (runB xs most pause).length (bools (runB xs most pause))) := by
  have HX := Lib.hid hxs
  have HI := Lib.hid h
  clear h hxs
  go_enter Try.func24, Try.ntmps24
  go_wp2
  go_loopw [7, 9] (fun v i wr => ∃ (k : Nat) (b c : Nat), k ≤ n ∧ i = .int .i64 k ∧ v = .slice (some ⟨b, 0, none⟩) k c ∧ wr.ownsRow w.heap.size 4 1 (.slice (some ⟨b, 0, none⟩) k c) k (bools (bout xs most pause k)) ∧ b ≠ w.heap.size + 1 ∧
    Box wr (w.heap.size + 1) 42 [.int .i64 (bst xs most pause k).1, .int .i64 (bst xs most pause k).2] ∧ Below w.heap.size w wr ∧ Hid ((∀ j, j < k → tmOk xs j = true) ∧ (0 < k → MP n most pause))) (fun _ i _ => n - (intOf i).toNat)
  case atStart =>
    refine ⟨0, w.heap.size, 0, Nat.zero_le _, rfl, rfl, ?_, by omega, ?_, by go_grown, Lib.hid ⟨fun j hj => by omega, fun h => by omega⟩⟩
    · exact (row_emp w _ _ _ rfl (Nat.le_refl _)).alloc _
    · exact Box.new2 (w.alloc (.cells #[] 4)) 42 [.int .i64 0, .int .i64 0] _ (by simp)
  case round =>
    obtain ⟨k, bo, c, hk, rfl, rfl, hown, hbne, hbox, hgr, HV⟩ := hrel
    have HO := Lib.hid hown
    have HB := Lib.hid hbox
    have HG := Lib.hid hgr
    have hz := hgr.size
    have hbl := hbox.lt
    have hbl2 := (hown.lt bo rfl)
    obtain ⟨hbl2, hbl3⟩ := hbl2
    clear hown hbox hgr
    have HBO := Lib.hid (bout_succ xs most pause k)
    have HBS : Hid (bst xs most pause (k + 1) = (stepF (bst xs most pause k).1 (bst xs most pause k).2 (xs.getD k 0) false most pause, stepU (bst xs most pause k).1 (bst xs most pause k).2 (xs.getD k 0) false most pause)) := Lib.hid rfl
    by_cases hlt : k < n
    · rcases HI.out with h0 | ⟨b, off, ha, hb, hcell⟩
      · have := HX.out; rw [h0] at this; simp at this; omega
      have hc1 := (HG.out.cell (p := ⟨b, off + k, none⟩) hb).trans (hcell k (by have := HX.out; omega))
      have hc0 : 0 < k → wr.cell? ⟨b, off + (k - 1), none⟩ = some (.int .i64 (xs.getD (k - 1) 0)) := fun _ => (HG.out.cell (p := ⟨b, off + (k - 1), none⟩) hb).trans (hcell (k - 1) (by have := HX.out; omega))
      have HC0 := Lib.hid hc0
      subst ha
      clear hcell hc0
      have HT : Hid (tmOk xs k = (inB (xs.getD k 0) 0 100000 && (decide (k = 0) || decide (xs.getD (k - 1) 0 ≤ xs.getD k 0)))) := Lib.hid rfl
      generalize (bst xs most pause k).1 = f at *
      generalize (bst xs most pause k).2 = u at *
      generalize xs.getD k 0 = x at *
      cases hv : inB x 0 100000
      · have HR := Lib.hid (runB_no (xs := xs) (most := most) (pause := pause) (.inr (.inr (.inr ⟨k, by have := HX.out; omega, by rw [HT.out, hv]; rfl⟩))))
        go_wp2
        go_quiet ((go_at_call 51; exact Calls.quiet_of_same (q_l1In _ _ _ _)))
        go_wp2
        go_ret
        exact ret_emptyB _ (wr.drewN _) _ HR.out (below_drewN HG.out _)
      · by_cases hk0 : k = 0
        · have HT2 : Hid (tmOk xs k = true) := Lib.hid (by rw [HT.out, hv, decide_eq_true hk0]; rfl)
          have hk1 : decide (0 < k) = false := by simp; omega
          clear hk0
          by_cases h40 : 40 < n
          · have h40' : decide (40 < (n : Int)) = true := by simp; omega
            have h40n : decide (40 < n) = true := by simp; omega
            have HR := Lib.hid (runB_no (xs := xs) (most := most) (pause := pause) (.inl (by rw [HX.out]; exact h40)))
            go_wp2
            go_quiet ((go_at_call 51; exact Calls.quiet_of_same (q_l1In _ _ _ _)))
            go_wp2
            go_ret
            exact ret_emptyB _ (wr.drewN _) _ HR.out (below_drewN HG.out _)
          have h40' : decide ((40 : Int) < (n : Int)) = false := by simp; omega
          have h40n : decide (40 < n) = false := by simp; omega
          cases hm : inB most 1 100
          · have HR := Lib.hid (runB_no (xs := xs) (most := most) (pause := pause) (.inr (.inl hm)))
            go_wp2
            go_quiet ((go_at_call 51; exact Calls.quiet_of_same (q_l1In _ _ _ _)))
            go_wp2
            go_ret
            exact ret_emptyB _ (wr.drewN _) _ HR.out (below_drewN HG.out _)
          cases hp : inB pause 1 100000
          · have HR := Lib.hid (runB_no (xs := xs) (most := most) (pause := pause) (.inr (.inr (.inl hp))))
            go_wp2
            go_quiet ((go_at_call 51; exact Calls.quiet_of_same (q_l1In _ _ _ _)))
            go_wp2
            go_ret
            exact ret_emptyB _ (wr.drewN _) _ HR.out (below_drewN HG.out _)
          have HMP : Hid (MP n most pause) := Lib.hid ⟨by simp at h40n; omega, hm, hp⟩
          go_wp2
          go_quiet ((go_at_call 51; exact Calls.quiet_of_same (q_l1In _ _ _ _)))
          have HO3 := Lib.hid (show ((wr.drewN nq).drew).ownsRow w.heap.size 4 1 (.slice (some ⟨bo, 0, none⟩) k c) k (bools (bout xs most pause k)) from HO.out)
          have HB3 := Lib.hid (show Box ((wr.drewN nq).drew) (w.heap.size + 1) 42 [.int .i64 f, .int .i64 u] from HB.out)
          have c1 : ((wr.drewN nq).drew).cell? ⟨b, off + k, none⟩ = some (.int .i64 x) := hc1
          have q3 : Below w.heap.size w ((wr.drewN nq).drew) := (below_drewN HG.out nq).drew
          have zq : wr.heap.size = (wr.drewN nq).heap.size := rfl
          have hz' : w.heap.size ≤ (wr.drewN nq).heap.size := hz
          have hbl' : w.heap.size + 1 < (wr.drewN nq).heap.size := hbl
          have r0 := HB3.out.cell 0
          have r1 := HB3.out.cell 1
          simp only [List.getElem?_cons_zero, List.getElem?_cons_succ] at r0 r1
          clear HO HB HG hc1 hz hbl hbl3 hv zq
          generalize wr.drewN nq = wq at *
          obtain ⟨A, hA⟩ : ∃ A, allowsB f u x = A := ⟨_, rfl⟩
          have HCA : Hid (∀ W : World, Calls Try.prog 61 #[.agg #[.int .i64 f, .int .i64 u], .int .i64 x] W fun e w' => e = .returned (.bool A) ∧ Below W.heap.size W w') := Lib.hid (fun W => by
            have := s_BreakerAllows f u x W
            rwa [hA] at this)
          rw [hA] at HBO
          clear hA
          go_wp2_with fail
          go_region_held3 (fun w' => w'.cell? ⟨w.heap.size + 1, 0, none⟩ = some (.int .i64 f) ∧ w'.cell? ⟨w.heap.size + 1, 1, none⟩ = some (.int .i64 u) ∧ w'.cell? ⟨b, off + k, none⟩ = some (.int .i64 x) ∧ Below w.heap.size w w') (first | assumption | exact held4_alloc (by assumption) _ | exact ⟨by assumption, by assumption, by assumption, by assumption⟩)
            (first
              | (go_at_call 61; (with_reducible refine (HCA.out _).mono ?_); rintro e w4 ⟨rfl, hb4⟩
                 have kk0 : w4.cell? ⟨w.heap.size + 1, 0, none⟩ = some (.int .i64 f) := (hb4.cell (p := ⟨w.heap.size + 1, 0, none⟩) hbl').trans r0
                 have kk1 : w4.cell? ⟨w.heap.size + 1, 1, none⟩ = some (.int .i64 u) := (hb4.cell (p := ⟨w.heap.size + 1, 1, none⟩) hbl').trans r1
                 have kk2 : w4.cell? ⟨b, off + k, none⟩ = some (.int .i64 x) := (hb4.cell (p := ⟨b, off + k, none⟩) (World.block_lt_of_cell? _ _ c1)).trans c1
                 have kk3 : Below w.heap.size w w4 := Below.step q3 hb4 hz'
                 have HO4 := Lib.hid (row_below HO3.out hb4)
                 have HB4 := Lib.hid (HB3.out.keep hb4)
                 have z4 : wq.heap.size ≤ w4.heap.size := hb4.size
                 clear hb4)
              | (refine step_app' _ rfl elemBool (.tmp 56) (.tmp 63) rfl w.heap.size (.slice (some ⟨bo, 0, none⟩) k c) k _ rfl (HO4.out.alloc _) ⟨w4.heap.size, 0, none⟩ 1 1 [.bool A] rfl rfl (news_of (Box.new w4 4 [_])) (one1 rfl) (by decide) (by omega) (by simp; omega) (k + 1) rfl _ rfl ?_
                 intro b' cap' w5 hown hgrow hat hlt5
                 have hne : (some (w.heap.size + 1) : Option Nat) ≠ some bo := fun e => hbne (by injection e with e; exact e.symm)
                 have kk4 : w5.cell? ⟨w.heap.size + 1, 0, none⟩ = some (.int .i64 f) := hgrow.cell (keep kk0 _) hne
                 have kk5 : w5.cell? ⟨w.heap.size + 1, 1, none⟩ = some (.int .i64 u) := hgrow.cell (keep kk1 _) hne
                 have kk6 : w5.cell? ⟨b, off + k, none⟩ = some (.int .i64 x) := hgrow.cell (keep kk2 _) (fun e => by injection e with e; simp only at e; omega)
                 have kk7 : Below w.heap.size w w5 := (kk3.alloc kk3.size _).grown hgrow (by simp; omega) (fun g hg => by injection hg with hg; simp only at hg; omega)
                 have HO5 := Lib.hid hown
                 have HB5 := Lib.hid ((HB4.out.alloc (.cells #[.bool A] 4)).grown hgrow hne)
                 have z5 : wq.heap.size ≤ w5.heap.size := by have := hgrow.size; simp at this; omega
                 have hbn' : b' ≠ w.heap.size + 1 := by
                   rcases hat with h | h
                   · injection h with h; simp only at h; omega
                   · simp at h; omega
                 clear hown hgrow hat hne))
          rename_i held
          clear held HO4 HB4 HCA HO3 HB3 r0 r1 c1
          go_wp2_with fail
          have k4 : w5.drew.cell? ⟨w.heap.size + 1, 0, none⟩ = some (.int .i64 f) := kk4
          have k5 : w5.drew.cell? ⟨w.heap.size + 1, 1, none⟩ = some (.int .i64 u) := kk5
          have k6 : w5.drew.cell? ⟨b, off + k, none⟩ = some (.int .i64 x) := kk6
          have k7 : Below w.heap.size w w5.drew := kk7.drew
          have HO6 := Lib.hid (HO5.out.drew)
          have HB6 := Lib.hid (HB5.out.drew)
          clear kk0 kk1 kk2 kk3 kk4 kk5 kk6 kk7 HO5 HB5
          obtain ⟨f', hf⟩ : ∃ f', stepF f u x false most pause = f' := ⟨_, rfl⟩
          obtain ⟨u', hu⟩ : ∃ u', stepU f u x false most pause = u' := ⟨_, rfl⟩
          have HCS : Hid (∀ W : World, Calls Try.prog 62 #[.agg #[.int .i64 f, .int .i64 u], .int .i64 x, .bool false, .int .i64 most, .int .i64 pause] W fun e w' => e = .returned (.agg #[.int .i64 f', .int .i64 u']) ∧ Below W.heap.size W w') := Lib.hid (fun W => by
            have := s_BreakerStep f u x most pause false W
            rwa [hf, hu] at this)
          rw [hf, hu] at HBS
          clear hf hu
          go_region_with (go_at_call 62; refine (HCS.out _).mono ?_; rintro e w6 ⟨rfl, hb6⟩; have B7 := Lib.hid (HB6.out.keep hb6); have O7 := Lib.hid (row_below HO6.out hb6); have q0 := B7.out.cell 0; have q1 := B7.out.cell 1; have q2 := B7.out.frozen 0; have q3' := B7.out.frozen 1; simp only [List.getElem?_cons_zero, List.getElem?_cons_succ] at q0 q1; have kk8 := Lib.hid (Below.step k7 hb6 k7.size); clear hb6)
          all_goals
            go_wp2
            go_roundw
            case rel =>
              refine ⟨k + 1, b', cap', by omega, by go_num, rfl, ?_, hbn', ?_, (kk8.out.setCell (by simp) _).setCell (by simp) _, Lib.hid ⟨fun j hj => ?_, fun _ => HMP.out⟩⟩
              · rw [HBO.out, bools_snoc]
                exact row_far (row_far O7.out (by simpa using hbn') _) (by simpa using hbn') _
              · rw [HBS.out]
                exact (B7.out.set 0 (.int .i64 f')).set 1 (.int .i64 u')
              · by_cases hjk : j = k
                · subst hjk; exact HT2.out
                · exact HV.out.1 j (by omega)
            case measure => simp [intOf]; omega
        · have hk1 : decide (0 < k) = true := by simp; omega
          have hcy := HC0.out (by omega)
          have hi1 : IntKind.i64.wrap ((k : Int) - 1) = (k : Int) - 1 := IntWalk.i64_in _ (by omega)
          have hi2 : ((k : Int) - 1).toNat = k - 1 := by omega
          have hi3 : 0 ≤ (k : Int) - 1 := by omega
          have hi4 : (k : Int) - 1 < (n : Int) := by omega
          generalize xs.getD (k - 1) 0 = y at *
          by_cases hlt2 : x < y
          · have HR := Lib.hid (runB_no (xs := xs) (most := most) (pause := pause) (.inr (.inr (.inr ⟨k, by have := HX.out; omega, by rw [HT.out, hv, decide_eq_false hk0, decide_eq_false (by omega)]; rfl⟩))))
            go_wp2
            go_quiet ((go_at_call 51; exact Calls.quiet_of_same (q_l1In _ _ _ _)))
            go_wp2
            go_ret
            exact ret_emptyB _ (wr.drewN _) _ HR.out (below_drewN HG.out _)
          · have HT2 : Hid (tmOk xs k = true) := Lib.hid (by rw [HT.out, hv, decide_eq_true (show y ≤ x by omega)]; simp)
            have hlt3 : decide (x < y) = false := by simp; omega
            by_cases h40 : 40 < n
            · have h40' : decide (40 < (n : Int)) = true := by simp; omega
              have h40n : decide (40 < n) = true := by simp; omega
              have HR := Lib.hid (runB_no (xs := xs) (most := most) (pause := pause) (.inl (by rw [HX.out]; exact h40)))
              go_wp2
              go_quiet ((go_at_call 51; exact Calls.quiet_of_same (q_l1In _ _ _ _)))
              go_wp2
              go_ret
              exact ret_emptyB _ (wr.drewN _) _ HR.out (below_drewN HG.out _)
            have h40' : decide ((40 : Int) < (n : Int)) = false := by simp; omega
            have h40n : decide (40 < n) = false := by simp; omega
            cases hm : inB most 1 100
            · have HR := Lib.hid (runB_no (xs := xs) (most := most) (pause := pause) (.inr (.inl hm)))
              go_wp2
              go_quiet ((go_at_call 51; exact Calls.quiet_of_same (q_l1In _ _ _ _)))
              go_wp2
              go_ret
              exact ret_emptyB _ (wr.drewN _) _ HR.out (below_drewN HG.out _)
            cases hp : inB pause 1 100000
            · have HR := Lib.hid (runB_no (xs := xs) (most := most) (pause := pause) (.inr (.inr (.inl hp))))
              go_wp2
              go_quiet ((go_at_call 51; exact Calls.quiet_of_same (q_l1In _ _ _ _)))
              go_wp2
              go_ret
              exact ret_emptyB _ (wr.drewN _) _ HR.out (below_drewN HG.out _)
            have HMP : Hid (MP n most pause) := Lib.hid ⟨by simp at h40n; omega, hm, hp⟩
            go_wp2
            go_quiet ((go_at_call 51; exact Calls.quiet_of_same (q_l1In _ _ _ _)))
            have HO3 := Lib.hid (show ((wr.drewN nq).drew).ownsRow w.heap.size 4 1 (.slice (some ⟨bo, 0, none⟩) k c) k (bools (bout xs most pause k)) from HO.out)
            have HB3 := Lib.hid (show Box ((wr.drewN nq).drew) (w.heap.size + 1) 42 [.int .i64 f, .int .i64 u] from HB.out)
            have c1 : ((wr.drewN nq).drew).cell? ⟨b, off + k, none⟩ = some (.int .i64 x) := hc1
            have q3 : Below w.heap.size w ((wr.drewN nq).drew) := (below_drewN HG.out nq).drew
            have zq : wr.heap.size = (wr.drewN nq).heap.size := rfl
            have hz' : w.heap.size ≤ (wr.drewN nq).heap.size := hz
            have hbl' : w.heap.size + 1 < (wr.drewN nq).heap.size := hbl
            have r0 := HB3.out.cell 0
            have r1 := HB3.out.cell 1
            simp only [List.getElem?_cons_zero, List.getElem?_cons_succ] at r0 r1
            clear HO HB HG hc1 hz hbl hbl3 hv zq
            generalize wr.drewN nq = wq at *
            obtain ⟨A, hA⟩ : ∃ A, allowsB f u x = A := ⟨_, rfl⟩
            have HCA : Hid (∀ W : World, Calls Try.prog 61 #[.agg #[.int .i64 f, .int .i64 u], .int .i64 x] W fun e w' => e = .returned (.bool A) ∧ Below W.heap.size W w') := Lib.hid (fun W => by
              have := s_BreakerAllows f u x W
              rwa [hA] at this)
            rw [hA] at HBO
            clear hA
            go_wp2_with fail
            go_region_held3 (fun w' => w'.cell? ⟨w.heap.size + 1, 0, none⟩ = some (.int .i64 f) ∧ w'.cell? ⟨w.heap.size + 1, 1, none⟩ = some (.int .i64 u) ∧ w'.cell? ⟨b, off + k, none⟩ = some (.int .i64 x) ∧ Below w.heap.size w w') (first | assumption | exact held4_alloc (by assumption) _ | exact ⟨by assumption, by assumption, by assumption, by assumption⟩)
              (first
                | (go_at_call 61; (with_reducible refine (HCA.out _).mono ?_); rintro e w4 ⟨rfl, hb4⟩
                   have kk0 : w4.cell? ⟨w.heap.size + 1, 0, none⟩ = some (.int .i64 f) := (hb4.cell (p := ⟨w.heap.size + 1, 0, none⟩) hbl').trans r0
                   have kk1 : w4.cell? ⟨w.heap.size + 1, 1, none⟩ = some (.int .i64 u) := (hb4.cell (p := ⟨w.heap.size + 1, 1, none⟩) hbl').trans r1
                   have kk2 : w4.cell? ⟨b, off + k, none⟩ = some (.int .i64 x) := (hb4.cell (p := ⟨b, off + k, none⟩) (World.block_lt_of_cell? _ _ c1)).trans c1
                   have kk3 : Below w.heap.size w w4 := Below.step q3 hb4 hz'
                   have HO4 := Lib.hid (row_below HO3.out hb4)
                   have HB4 := Lib.hid (HB3.out.keep hb4)
                   have z4 : wq.heap.size ≤ w4.heap.size := hb4.size
                   clear hb4)
                | (refine step_app' _ rfl elemBool (.tmp 56) (.tmp 63) rfl w.heap.size (.slice (some ⟨bo, 0, none⟩) k c) k _ rfl (HO4.out.alloc _) ⟨w4.heap.size, 0, none⟩ 1 1 [.bool A] rfl rfl (news_of (Box.new w4 4 [_])) (one1 rfl) (by decide) (by omega) (by simp; omega) (k + 1) rfl _ rfl ?_
                   intro b' cap' w5 hown hgrow hat hlt5
                   have hne : (some (w.heap.size + 1) : Option Nat) ≠ some bo := fun e => hbne (by injection e with e; exact e.symm)
                   have kk4 : w5.cell? ⟨w.heap.size + 1, 0, none⟩ = some (.int .i64 f) := hgrow.cell (keep kk0 _) hne
                   have kk5 : w5.cell? ⟨w.heap.size + 1, 1, none⟩ = some (.int .i64 u) := hgrow.cell (keep kk1 _) hne
                   have kk6 : w5.cell? ⟨b, off + k, none⟩ = some (.int .i64 x) := hgrow.cell (keep kk2 _) (fun e => by injection e with e; simp only at e; omega)
                   have kk7 : Below w.heap.size w w5 := (kk3.alloc kk3.size _).grown hgrow (by simp; omega) (fun g hg => by injection hg with hg; simp only at hg; omega)
                   have HO5 := Lib.hid hown
                   have HB5 := Lib.hid ((HB4.out.alloc (.cells #[.bool A] 4)).grown hgrow hne)
                   have z5 : wq.heap.size ≤ w5.heap.size := by have := hgrow.size; simp at this; omega
                   have hbn' : b' ≠ w.heap.size + 1 := by
                     rcases hat with h | h
                     · injection h with h; simp only at h; omega
                     · simp at h; omega
                   clear hown hgrow hat hne))
            rename_i held
            clear held HO4 HB4 HCA HO3 HB3 r0 r1 c1
            go_wp2_with fail
            have k4 : w5.drew.cell? ⟨w.heap.size + 1, 0, none⟩ = some (.int .i64 f) := kk4
            have k5 : w5.drew.cell? ⟨w.heap.size + 1, 1, none⟩ = some (.int .i64 u) := kk5
            have k6 : w5.drew.cell? ⟨b, off + k, none⟩ = some (.int .i64 x) := kk6
            have k7 : Below w.heap.size w w5.drew := kk7.drew
            have HO6 := Lib.hid (HO5.out.drew)
            have HB6 := Lib.hid (HB5.out.drew)
            clear kk0 kk1 kk2 kk3 kk4 kk5 kk6 kk7 HO5 HB5
            obtain ⟨f', hf⟩ : ∃ f', stepF f u x false most pause = f' := ⟨_, rfl⟩
            obtain ⟨u', hu⟩ : ∃ u', stepU f u x false most pause = u' := ⟨_, rfl⟩
            have HCS : Hid (∀ W : World, Calls Try.prog 62 #[.agg #[.int .i64 f, .int .i64 u], .int .i64 x, .bool false, .int .i64 most, .int .i64 pause] W fun e w' => e = .returned (.agg #[.int .i64 f', .int .i64 u']) ∧ Below W.heap.size W w') := Lib.hid (fun W => by
              have := s_BreakerStep f u x most pause false W
              rwa [hf, hu] at this)
            rw [hf, hu] at HBS
            clear hf hu
            go_region_with (go_at_call 62; refine (HCS.out _).mono ?_; rintro e w6 ⟨rfl, hb6⟩; have B7 := Lib.hid (HB6.out.keep hb6); have O7 := Lib.hid (row_below HO6.out hb6); have q0 := B7.out.cell 0; have q1 := B7.out.cell 1; have q2 := B7.out.frozen 0; have q3' := B7.out.frozen 1; simp only [List.getElem?_cons_zero, List.getElem?_cons_succ] at q0 q1; have kk8 := Lib.hid (Below.step k7 hb6 k7.size); clear hb6)
            all_goals
              go_wp2
              go_roundw
              case rel =>
                refine ⟨k + 1, b', cap', by omega, by go_num, rfl, ?_, hbn', ?_, (kk8.out.setCell (by simp) _).setCell (by simp) _, Lib.hid ⟨fun j hj => ?_, fun _ => HMP.out⟩⟩
                · rw [HBO.out, bools_snoc]
                  exact row_far (row_far O7.out (by simpa using hbn') _) (by simpa using hbn') _
                · rw [HBS.out]
                  exact (B7.out.set 0 (.int .i64 f')).set 1 (.int .i64 u')
                · by_cases hjk : j = k
                  · subst hjk; exact HT2.out
                  · exact HV.out.1 j (by omega)
              case measure => simp [intOf]; omega
    · obtain rfl : k = n := by omega
      go_wp2
      go_ret
      have hx := HX.out
      subst hx
      have hr : runB xs most pause = bout xs most pause xs.length := by
        by_cases h0 : 0 < xs.length
        · obtain ⟨h1, h2⟩ := HV.out
          obtain ⟨h3, h4, h5⟩ := h2 h0
          exact runB_yes h3 h4 h5 h1
        · have : xs = [] := List.eq_nil_of_length_eq_zero (by omega)
          subst this
          simp [runB, bout]
      rw [hr, bout_len]
      exact ⟨_, _, rfl, HO.out, below_grown HG.out⟩
end Go.Proofs.Ytdpmlkigmadajaa
