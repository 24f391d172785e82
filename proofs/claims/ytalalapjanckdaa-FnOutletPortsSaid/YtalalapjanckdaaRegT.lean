/- As RegR, and besides: some operations that only read may come behind the head. No condition. -/
import Derived.Test.YtalalapjanckdaaMG
import Derived.Test.YtalalapjanckdaaRegP
namespace Go.Proofs.Ytalalapjanckdaa
open Go.RowKit
theorem region_drawP {id : Nat} {a0 : Act} {w0 : World} {Q : Exit → Act → World → Prop} (l : List Oper) (D g p c n size : Nat) (Pu : List Nat) (ds : List Tmp) (S : List BR) (X : List (Tmp × VP)) (hsize : a0.tmps.size = size)
    (hok : (regOkP l.toArray size n Pu && decide (ds = (List.range n).filterMap (dstOf l.toArray))) = true)
    (hgw : g < w0.heap.size) (hD : D ≤ w0.heap.size) (hr : Rd D w0 g p)
    (hfree : ∀ s ∈ S, Stb g w0.heap.size S s.src) (hX : ∀ q ∈ X, Stb g w0.heap.size S q.2) (hdist : ∀ s ∈ S, ∀ s' ∈ S, s.T = s'.T → s = s')
    (hst : (S.all fun s => (List.range n).any fun i => match l.toArray[i]? with | some o => (match srBox S o with | some s' => decide (s'.slot = s.slot) | none => false) | none => false) = true)
    (hQ : ∀ c a d v w, Q (.panic c) (a.put (some d) v) w → Q (.panic c) a w)
    (hpure : ∀ i o, i ∈ Pu → l.toArray[i]? = some o → ∀ a w, (∀ s, (o.after.any fun e => Region.binds .any e && decide (dstOf l.toArray e.on = some s)) = true → RHas w0.heap.size S X s (a.tmps.getD s undef) w) → ∃ d v, o.dst = some d ∧ Yields Try.prog l.toArray o v a ∧ RHas w0.heap.size S X d v w)
    (hop : AllOps (OpR l n a0 w0 D g p c S X Q) 0 (l.take n))
    (htail : ∀ (f : Tmp → Value) (w : World), (∀ d, d ∈ ds → DRHas w0.heap.size S X d (f d) w) → w0.grownBy w (some g) → (∃ p', p' ≤ p + c * n ∧ Rd D w g p') → wpList Try.prog l.toArray Q (l.drop n) (putL ds f a0) w) :
    (Code.region id l.toArray true).wp Try.prog Q a0 w0 := by
  simp only [Bool.and_eq_true, decide_eq_true_eq] at hok
  obtain ⟨h1, hds⟩ := hok
  have htys := vpAt_stb (X := X) hX
  have hmemds : ∀ s, s ∈ ds ↔ ∃ j, j < n ∧ dstOf l.toArray j = some s := fun s => by
    rw [hds, List.mem_filterMap]
    exact ⟨fun ⟨j, hj, e⟩ => ⟨j, List.mem_range.1 hj, e⟩, fun ⟨j, hj, e⟩ => ⟨j, List.mem_range.2 hj, e⟩⟩
  have hgb : ∀ {w : World}, GR g w0.heap.size S w0.drew w → w0.grownBy w (some g) := fun {w} h =>
    grownBy_tr (⟨rfl, rfl, rfl, Nat.le_refl _, fun _ _ _ => rfl⟩ : w0.grownBy w0.drew (some g)) (GR.grown (w := w0.drew) h)
  refine region_typedP (Pu := Pu) (G := GR g w0.heap.size S) (T := fun d => RHas w0.heap.size S X d)
    (F := fun i a w => match l.toArray[i]? with | some o => (match srBox S o with | some s => (s ∈ S ∧ (o.after.any fun e => Region.binds .any e && decide (dstOf l.toArray e.on = some s.slot)) = true) ∧ BrDone w0.heap.size s (a.tmps.getD s.slot undef) w | none => True) | none => True)
    (W := fun k w => ∃ p', p' ≤ p + c * k ∧ Rd D w g p') (fun a => gr_of (World.grownBy.refl _ _)) (fun a b c h k => h.trans hfree k) (by kernel_rfl) l n size hsize h1
    (fun d v w w' hh hg => ?_) ?_ ⟨p, by omega, hr⟩ hQ (fun k w ⟨p', q1, q2⟩ => ⟨p', by have : c * (k + 1) = c * k + c := Nat.mul_succ c k; omega, q2⟩) ?_ ?_ ?_
  · unfold RHas at *
    cases hb : brAt S d with
    | some s => rw [hb] at hh; exact BrHas.stable hgw hfree hdist (brAt_mem hb).1 hh hg
    | none => rw [hb] at hh; exact htys d _ _ _ hh hg
  · intro i o a a' w w' hi ho hd hF hg hs
    rw [ho] at hF ⊢
    dsimp only at hF ⊢
    cases hb : srBox S o with
    | none => trivial
    | some s =>
      rw [hb] at hF
      dsimp only at hF ⊢
      obtain ⟨⟨hs1, hs2⟩, hF⟩ := hF
      refine ⟨⟨hs1, hs2⟩, ?_⟩
      obtain ⟨e, he, hbe⟩ := Array.any_eq_true'.1 hs2
      simp only [Bool.and_eq_true, decide_eq_true_eq] at hbe
      rw [hs s.slot ⟨e, he, hbe.1, hbe.2⟩]
      exact BrDone.stable hgw hfree hdist hs1 hF hg
  · intro i o hi ho a w hdep
    exact hpure i o hi ho a w (fun s hs => by
      obtain ⟨e, he, hb⟩ := Array.any_eq_true'.1 hs
      simp only [Bool.and_eq_true, decide_eq_true_eq] at hb
      exact hdep s ⟨e, he, hb.1, hb.2⟩)
  · have hall : ∀ (m : Nat) (r : List Oper), (∀ j o, r[j]? = some o → l.toArray[m + j]? = some o) → AllOps (OpR l n a0 w0 D g p c S X Q) m r → AllOps (fun i o => ∀ k a w, k < n → a.defers = a0.defers → (∀ s, (∀ j, j < n → dstOf l.toArray j ≠ some s) → a.tmps.getD s undef = a0.tmps.getD s undef) →
      (∀ s, (∃ e ∈ o.after, Region.binds .any e = true ∧ dstOf l.toArray e.on = some s) → RHas w0.heap.size S X s (a.tmps.getD s undef) w) → GR g w0.heap.size S w0.drew w → (∃ p', p' ≤ p + c * k ∧ Rd D w g p') →
      Oper.wp Try.prog o a w (PostS (GR g w0.heap.size S) (fun d => RHas w0.heap.size S X d) (fun i a w => match l.toArray[i]? with | some o => (match srBox S o with | some s => (s ∈ S ∧ (o.after.any fun e => Region.binds .any e && decide (dstOf l.toArray e.on = some s.slot)) = true) ∧ BrDone w0.heap.size s (a.tmps.getD s.slot undef) w | none => True) | none => True) (fun k w => ∃ p', p' ≤ p + c * k ∧ Rd D w g p') k i o a w) Q) m r := by
      intro m r
      induction r generalizing m with
      | nil => intro _ _; trivial
      | cons o r ih =>
        rintro hidx ⟨ho, hr'⟩
        refine ⟨?_, ih _ (fun j o' hj => by have := hidx (j + 1) o' (by simpa using hj); rwa [show m + (j + 1) = m + 1 + j by omega] at this) hr'⟩
        intro k a w hk _ hfrm hdep hgr hW
        have hio : l.toArray[m]? = some o := by have := hidx 0 o rfl; rwa [Nat.add_zero] at this
        have h2 := ho k a w hk (fun s hs => hfrm s fun j hj hjs => by
            have : isDst l.toArray n s = true := List.any_eq_true.2 ⟨j, List.mem_range.2 hj, by simpa using hjs⟩
            rw [this] at hs; cases hs) (fun s hs => by
            obtain ⟨e, he, hb⟩ := Array.any_eq_true'.1 hs
            simp only [Bool.and_eq_true, decide_eq_true_eq] at hb
            exact hdep s ⟨e, he, hb.1, hb.2⟩) (hgb hgr) hW
        cases hd : o.dst with
        | some d =>
          simp only [hd] at h2
          refine Oper.wp_mono (fun a' w' hg => ?_) h2
          obtain ⟨v, ha, hT, hgg, hW'⟩ := hg
          refine ⟨gr_of hgg, hW', ?_⟩
          rw [hd]
          exact ⟨v, ha, hT⟩
        | none =>
          simp only [hd] at h2
          obtain ⟨s, hs1, hs2, hs3, h2⟩ := h2
          refine Oper.wp_mono (fun a' w' hg => ?_) h2
          obtain ⟨ha, b, cs, u, e1, e2, e3, e4, e5, e5', e6, e7⟩ := hg
          have hGR : GR g w0.heap.size S w w' := ⟨e6.os, e6.tape, e6.output, e6.size, fun b' hb _ => by
            by_cases hbg : b' = b
            · subst hbg
              exact .inr ⟨e2, s, hs2, cs, u, e3, e4, e5'⟩
            · exact .inl (e6.block b' hb (fun h => hbg (by injection h)))⟩
          obtain ⟨p', q1, q2⟩ := hW
          refine ⟨hGR, ⟨p', Nat.le_trans q1 (by rw [Nat.mul_add]; omega), q2.far e6 (by omega) (by omega)⟩, ?_⟩
          rw [hd]
          refine ⟨ha, ?_⟩
          dsimp only
          rw [hio]
          dsimp only
          rw [hs1]
          dsimp only
          exact ⟨⟨hs2, hs3⟩, b, u, e1, e2, e4, e5'⟩
    refine hall 0 _ (fun j o hj => ?_) hop
    rw [Nat.zero_add]
    rw [List.getElem?_take] at hj
    split at hj
    · simpa using hj
    · cases hj
  · intro a w hsz hdef hfrm htyp hF hgr hW
    have hpe := putL_eq (ds := ds) (a0 := a0) (a := a) (by rw [hsz, hsize]) hdef (fun s hs => hfrm s (fun j hj hjs => hs ((hmemds s).2 ⟨j, hj, hjs⟩)))
    rw [← hpe]
    refine htail (fun d => a.tmps.getD d undef) w (fun d hd => ?_) (hgb hgr) hW
    obtain ⟨j, hj, hjs⟩ := (hmemds d).1 hd
    have hT := htyp j d hj hjs
    unfold RHas at hT
    unfold DRHas
    cases hb : brAt S d with
    | none => rw [hb] at hT; exact hT
    | some s =>
      dsimp only
      obtain ⟨hsm, rfl⟩ := brAt_mem hb
      have h5 := List.all_eq_true.1 hst s hsm
      obtain ⟨i, hi, h6⟩ := List.any_eq_true.1 h5
      rw [List.mem_range] at hi
      cases ho : l.toArray[i]? with
      | none => rw [ho] at h6; cases h6
      | some o =>
        rw [ho] at h6
        dsimp only at h6
        cases hsb : srBox S o with
        | none => rw [hsb] at h6; cases h6
        | some s' =>
          rw [hsb] at h6
          simp only [decide_eq_true_eq] at h6
          have hdn : o.dst = none := by
            unfold srBox at hsb
            split at hsb
            · assumption
            · cases hsb
          have hFi := hF i o hi ho hdn
          simp only [ho, hsb] at hFi
          have hss : s' = s := by
            unfold srBox at hsb
            split at hsb
            · have e1 := (brAt_mem hsb).2
              rw [← h6] at hb
              rw [← e1] at hb
              rw [hb] at hsb
              injection hsb with hsb
              exact hsb.symm
            · cases hsb
          subst hss
          exact hFi.2
end Go.Proofs.Ytalalapjanckdaa
