/- The law of XReg once more, for regions whose head holds statements without a slot (stores) too: what such a one leaves is said by 'F'; 'G' says how the world may turn. what each operation leaves is said by its slot alone ('T'), and stays true whatever the others do; then the order does not matter, and each operation is looked at once. No program in sight. -/
import Derived.Test.YtalalapjanckdaaTyU
namespace Go.Proofs.Ytalalapjanckdaa
open Go Go.RowKit
section
variable {P : Program} {ops : Array Oper} {Q : Exit → Act → World → Prop}
/-- What the shape of the region must be: the first n operations have slots of their own, no guard, and wait only for those before them. -/
def headOkG (ops : Array Oper) (size n : Nat) : Bool :=
  (List.range n).all fun i =>
    (match ops[i]? with
      | some o => o.guard.isNone && (match o.dst with | some d => decide (d < size) | none => true) && (o.after.all fun e => !Region.binds .any e || decide (e.on < i))
      | none => false) &&
    (List.range i).all fun j => dstOf ops i == none || decide (dstOf ops j ≠ dstOf ops i)
theorem headOk_specG {size n : Nat} (h : headOkG ops size n = true) {i : Nat} (hi : i < n) :
    ∃ o, ops[i]? = some o ∧ o.guard = none ∧ (∀ d, o.dst = some d → d < size ∧ ∀ j, j < i → dstOf ops j ≠ some d) ∧ (∀ e ∈ o.after, Region.binds .any e = true → e.on < i) := by
  have h1 := List.all_eq_true.1 h i (List.mem_range.2 hi)
  simp only [Bool.and_eq_true] at h1
  obtain ⟨h2, h3⟩ := h1
  cases ho : ops[i]? with
  | none => rw [ho] at h2; cases h2
  | some o =>
    rw [ho] at h2
    simp only [Bool.and_eq_true] at h2
    obtain ⟨⟨g, d⟩, e⟩ := h2
    refine ⟨o, rfl, by simpa using g, fun t hd => ?_, fun x hx => ?_⟩
    · rw [hd] at d
      refine ⟨by simpa using d, fun j hj => ?_⟩
      have := List.all_eq_true.1 h3 j (List.mem_range.2 hj)
      have e2 : dstOf ops i = some t := by simp [dstOf, ho, hd]
      rw [e2] at this
      simpa using this
    · obtain ⟨m, hm, rfl⟩ := Array.mem_iff_getElem.1 hx
      have := Array.all_eq_true.1 e m hm
      intro hb
      rw [hb] at this
      simpa using this
/-- The state in the middle of the region. -/
structure RInvG (ops : Array Oper) (n : Nat) (a0 : Act) (w0 : World) (G : World → World → Prop) (T : Tmp → Value → World → Prop) (F : Nat → World → Prop) (W : Nat → World → Prop) (listed : Array Bool) (k : Nat) (a : Act) (w : World) : Prop where
  head : HeadInv .any ops n listed
  size : a.tmps.size = a0.tmps.size
  defers : a.defers = a0.defers
  frame : ∀ s, (∀ i, i < n → dstOf ops i ≠ some s) → a.tmps.getD s undef = a0.tmps.getD s undef
  typed : ∀ i d, i < n → dstOf ops i = some d → listed.getD i false = true → T d (a.tmps.getD d undef) w
  stored : ∀ i o, i < n → ops[i]? = some o → o.dst = none → listed.getD i false = true → F i w
  grown : G w0 w
  cnt : W k w
/-- What an operation of the head leaves. -/
def PostG (G : World → World → Prop) (T : Tmp → Value → World → Prop) (F : Nat → World → Prop) (W : Nat → World → Prop) (k i : Nat) (o : Oper) (a : Act) (w : World) (a' : Act) (w' : World) : Prop :=
  G w w' ∧ W (k + 1) w' ∧ match o.dst with | some d => ∃ v, a' = a.put (some d) v ∧ T d v w' | none => a' = a ∧ F i w'
theorem wpAny_typedG {n : Nat} {a0 : Act} {w0 : World} {G : World → World → Prop} {T : Tmp → Value → World → Prop} {F : Nat → World → Prop} {W : Nat → World → Prop} (hGt : ∀ a b c, G a b → G b c → G a c) (l : List Oper) (hl : ops = l.toArray) (hn : n < ops.size)
    (hs : Region.sinkB .any ops n = true) (hc : Region.chainB .any ops n = true) (hok : headOkG ops a0.tmps.size n = true)
    (hseq : Region.seqB .any ops (ops.size - n) n (Array.replicate n true ++ Array.replicate (ops.size - n) false) = true)
    (hT : ∀ d v w w', T d v w → G w w' → T d v w') (hF : ∀ i w w', F i w → G w w' → F i w')
    (hop : ∀ i o, i < n → ops[i]? = some o → ∀ k a w, k < n → a.defers = a0.defers → (∀ s, (∀ j, j < n → dstOf ops j ≠ some s) → a.tmps.getD s undef = a0.tmps.getD s undef) →
      (∀ s, (∃ e ∈ o.after, Region.binds .any e = true ∧ dstOf ops e.on = some s) → T s (a.tmps.getD s undef) w) → G w0 w → W k w →
      Oper.wp P o a w (PostG G T F W k i o a w) Q)
    (htail : ∀ a w, a.tmps.size = a0.tmps.size → a.defers = a0.defers → (∀ s, (∀ j, j < n → dstOf ops j ≠ some s) → a.tmps.getD s undef = a0.tmps.getD s undef) →
      (∀ i d, i < n → dstOf ops i = some d → T d (a.tmps.getD d undef) w) → (∀ i o, i < n → ops[i]? = some o → o.dst = none → F i w) → G w0 w → W n w → wpList P ops Q (l.drop n) a w) :
    ∀ (m : Nat) (L : List Nat) (listed : Array Bool) (k : Nat) (a : Act) (w : World), L.Nodup → L.length = m → (∀ i, i ∈ L ↔ (i < n ∧ listed.getD i true = false)) → k + m = n →
      RInvG ops n a0 w0 G T F W listed k a w → wpAny P .any ops Q (m + (ops.size - n)) listed a w := by
  intro m
  induction m with
  | zero =>
    intro L listed k a w _ hL hmem hk inv
    have hnil : L = [] := List.length_eq_zero_iff.1 hL
    subst hnil
    have hall : ∀ i, i < n → listed.getD i false = true := fun i hi => by
      have h1 : ¬ (i < n ∧ listed.getD i true = false) := fun h => by have := (hmem i).2 h; cases this
      have hsz : i < listed.size := by rw [inv.head.size]; omega
      cases hb : listed[i]'hsz with
      | true => simp [hsz, hb]
      | false => exact absurd ⟨hi, by simp [hsz, hb]⟩ h1
    have hlist : listed = Array.replicate n true ++ Array.replicate (ops.size - n) false := by
      apply Array.ext
      · simp [inv.head.size]; omega
      · intro i h1 h2
        by_cases hi : i < n
        · have := hall i hi
          simp only [Array.getD_eq_getD_getElem?, Array.getElem?_eq_getElem h1, Option.getD_some] at this
          rw [this, Array.getElem_append_left (by simpa using hi)]; simp
        · have := inv.head.tail i (by omega) (by rw [inv.head.size] at h1; exact h1)
          simp only [Array.getD_eq_getD_getElem?, Array.getElem?_eq_getElem h1, Option.getD_some] at this
          rw [this, Array.getElem_append_right (by simpa using hi)]; simp
    obtain rfl : k = n := by omega
    have hw := htail a w inv.size inv.defers inv.frame (fun i d hi hd => inv.typed i d hi hd (hall i hi)) (fun i o hi ho hd => inv.stored i o hi ho hd (hall i hi)) inv.grown inv.cnt
    rw [hlist]
    have hlen : (l.drop k).length = ops.size - k := by rw [hl]; simp
    have := wpAny_of_seq (md := .any) (Q' := Q) (P := P) (ops := ops) (l.drop k) k (Array.replicate k true ++ Array.replicate (ops.size - k) false) a w (fun j => by rw [hl]; simp [List.getElem?_drop]) (by rw [hlen]; exact hseq) hw
    rw [hlen] at this
    rw [Nat.zero_add]
    exact this
  | succ m ih =>
    intro L listed k a w hnd hL hmem hk inv
    rw [show m + 1 + (ops.size - n) = (m + (ops.size - n)) + 1 from by omega]
    -- some operation of the head is open
    have hopen : ∃ i, i < n ∧ listed.getD i true = false := by
      cases hLL : L with
      | nil => rw [hLL] at hL; cases hL
      | cons i r => exact ⟨i, (hmem i).1 (by rw [hLL]; simp)⟩
    have hleast : ∃ i, i < n ∧ listed.getD i true = false ∧ ∀ j, j < i → listed.getD j true ≠ false := by
      obtain ⟨i0, hi0⟩ := hopen
      have : ∀ b i, i ≤ b → i < n → listed.getD i true = false → ∃ i, i < n ∧ listed.getD i true = false ∧ ∀ j, j < i → listed.getD j true ≠ false := by
        intro b
        induction b with
        | zero => intro i hi h1 h2; exact ⟨i, h1, h2, fun j hj => by omega⟩
        | succ b ihb =>
          intro i hi h1 h2
          by_cases h : ∃ j, j < i ∧ listed.getD j true = false
          · obtain ⟨j, hj, hj2⟩ := h; exact ihb j (by omega) (by omega) hj2
          · exact ⟨i, h1, h2, fun j hj hj2 => h ⟨j, hj, hj2⟩⟩
      exact this i0 i0 (Nat.le_refl _) hi0.1 hi0.2
    obtain ⟨i1, hi1, hu1, hmin⟩ := hleast
    have hr1 : i1 ∈ Region.ready .any ops listed := by
      obtain ⟨o, ho, _, _, haft⟩ := headOk_specG hok hi1
      refine mem_ready.2 ⟨hu1, o, ho, fun e he hb => ?_⟩
      have := hmin e.on (haft e he hb)
      have hsz : e.on < listed.size := by rw [inv.head.size]; have := haft e he hb; omega
      simp only [Array.getD_eq_getD_getElem?, Array.getElem?_eq_getElem hsz, Option.getD_some] at this ⊢
      simpa using this
    refine ⟨fun h0 => (by rw [h0] at hr1; cases hr1), fun i hi => ?_⟩
    have hin : i < n := by
      rcases Nat.lt_or_ge i n with h | h
      · exact h
      · exact absurd hi (tail_waits hs hc hn inv.head _ i1 rfl hi1 hu1 i h)
    obtain ⟨hui, oi, hoi, hall⟩ := mem_ready.1 hi
    obtain ⟨o, ho, hg, hdd, haft⟩ := headOk_specG hok hin
    obtain rfl : oi = o := Option.some.inj (hoi.symm.trans ho)
    have hstep := hop i oi hin ho k a w (by omega) inv.defers inv.frame (fun s ⟨e, he, hb, hes⟩ => inv.typed e.on s (by have := haft e he hb; omega) hes (hall e he hb)) inv.grown inv.cnt
    have hw : wpOp P ops Q i (PostG G T F W k i oi a w) a w := by
      unfold wpOp
      simp only [ho]
      rw [if_pos (by simp [Region.wanted, hg])]
      exact .inl hstep
    refine wpOp_mono (fun a' w' hh => ?_) hw
    obtain ⟨hgr, hW, hh⟩ := hh
    have hmem' : ∀ j, j ∈ L.erase i ↔ (j < n ∧ (listed.setIfInBounds i true).getD j true = false) := by
      intro j
      rw [hnd.mem_erase_iff, hmem j]
      by_cases hji : j = i
      · subst hji
        have hsz : j < listed.size := by rw [inv.head.size]; omega
        simp [hsz]
      · rw [getD_set_ne true (fun h => hji h.symm)]
        exact ⟨fun h => h.2, fun h => ⟨hji, h⟩⟩
    have hlen' : (L.erase i).length = m := by rw [List.length_erase_of_mem ((hmem i).2 ⟨hin, hui⟩), hL]; rfl
    cases hd : oi.dst with
    | none =>
      simp only [hd] at hh
      obtain ⟨rfl, hF'⟩ := hh
      refine ih (L.erase i) (listed.setIfInBounds i true) (k + 1) _ w' (hnd.erase i) hlen' hmem' (by omega) ⟨inv.head.set hi hin, inv.size, inv.defers, inv.frame, ?_, ?_, hGt _ _ _ inv.grown hgr, hW⟩
      · intro j s hj hjs hlj
        by_cases hji : j = i
        · subst hji
          simp [dstOf, ho, hd] at hjs
        · rw [getD_set_ne false (fun h => hji h.symm)] at hlj
          exact hT _ _ _ _ (inv.typed j s hj hjs hlj) hgr
      · intro j oj hj hoj hdj hlj
        by_cases hji : j = i
        · subst hji
          exact hF'
        · rw [getD_set_ne false (fun h => hji h.symm)] at hlj
          exact hF _ _ _ (inv.stored j oj hj hoj hdj hlj) hgr
    | some d =>
      simp only [hd] at hh
      obtain ⟨v, rfl, hTv⟩ := hh
      obtain ⟨hds, hdist⟩ := hdd d hd
      have hdi : dstOf ops i = some d := by simp [dstOf, ho, hd]
      have hne : ∀ j s, j < n → j ≠ i → dstOf ops j = some s → s ≠ d := by
        intro j s hj hji hjs hsd
        subst hsd
        rcases Nat.lt_or_gt_of_ne hji with h | h
        · exact hdist j h hjs
        · obtain ⟨oj, hoj, _, hdj, _⟩ := headOk_specG hok hj
          have e1 : oj.dst = some s := by simpa [dstOf, hoj] using hjs
          exact (hdj s e1).2 i h hdi
      refine ih (L.erase i) (listed.setIfInBounds i true) (k + 1) _ w' (hnd.erase i) hlen' hmem' (by omega) ⟨inv.head.set hi hin, ?_, ?_, ?_, ?_, ?_, hGt _ _ _ inv.grown hgr, hW⟩
      · simp [Act.put, inv.size]
      · exact inv.defers
      · intro s hs'
        rw [getD_put (fun h => hs' i hin (by rw [hdi, h]))]
        exact inv.frame s hs'
      · intro j s hj hjs hlj
        by_cases hji : j = i
        · subst hji
          rw [hdi] at hjs
          injection hjs with e
          subst e
          rw [getD_put_same (by rw [inv.size]; exact hds)]
          exact hTv
        · rw [getD_put (hne j s hj hji hjs)]
          rw [getD_set_ne false (fun h => hji h.symm)] at hlj
          exact hT _ _ _ _ (inv.typed j s hj hjs hlj) hgr
      · intro j oj hj hoj hdj hlj
        by_cases hji : j = i
        · subst hji
          rw [hoj] at ho
          injection ho with e
          rw [e, hd] at hdj
          cases hdj
        · rw [getD_set_ne false (fun h => hji h.symm)] at hlj
          exact hF _ _ _ (inv.stored j oj hj hoj hdj hlj) hgr
def regOkG (ops : Array Oper) (size n : Nat) : Bool :=
  decide (n < ops.size) && Region.sinkB .any ops n && Region.chainB .any ops n && headOkG ops size n && Region.seqB .any ops (ops.size - n) n (Array.replicate n true ++ Array.replicate (ops.size - n) false)
theorem region_typedG {id : Nat} {a0 : Act} {w0 : World} {G : World → World → Prop} {T : Tmp → Value → World → Prop} {F : Nat → World → Prop} {W : Nat → World → Prop} (hGr : ∀ a, G a a) (hGt : ∀ a b c, G a b → G b c → G a c) (hm : P.follows .mixedOrders = true) (l : List Oper) (n size : Nat) (hsize : a0.tmps.size = size) (hok : regOkG l.toArray size n = true)
    (hT : ∀ d v w w', T d v w → G w w' → T d v w') (hF : ∀ i w w', F i w → G w w' → F i w') (h0 : W 0 w0.drew)
    (hop : AllOps (fun i o => ∀ k a w, k < n → a.defers = a0.defers → (∀ s, (∀ j, j < n → dstOf l.toArray j ≠ some s) → a.tmps.getD s undef = a0.tmps.getD s undef) →
      (∀ s, (∃ e ∈ o.after, Region.binds .any e = true ∧ dstOf l.toArray e.on = some s) → T s (a.tmps.getD s undef) w) → G w0.drew w → W k w →
      Oper.wp P o a w (PostG G T F W k i o a w) Q) 0 (l.take n))
    (htail : ∀ a w, a.tmps.size = size → a.defers = a0.defers → (∀ s, (∀ j, j < n → dstOf l.toArray j ≠ some s) → a.tmps.getD s undef = a0.tmps.getD s undef) →
      (∀ i d, i < n → dstOf l.toArray i = some d → T d (a.tmps.getD d undef) w) → (∀ i o, i < n → l.toArray[i]? = some o → o.dst = none → F i w) → G w0.drew w → W n w → wpList P l.toArray Q (l.drop n) a w) :
    (Code.region id l.toArray true).wp P Q a0 w0 := by
  subst hsize
  simp only [regOkG, Bool.and_eq_true, decide_eq_true_eq] at hok
  obtain ⟨⟨⟨⟨hn, hs⟩, hc⟩, hh⟩, hseq⟩ := hok
  refine wp_region_any hm ?_
  have inv0 : HeadInv .any l.toArray n (Array.replicate l.toArray.size false) :=
    ⟨by simp, fun j oj _ hl => (by rw [getD_replicate_false] at hl; cases hl), fun t _ ht => getD_in (by simpa using ht) (getD_replicate_false _ _)⟩
  have H := wpAny_typedG (P := P) (Q := Q) (a0 := a0) (w0 := w0.drew) (F := F) hGt l rfl hn hs hc hh hseq hT hF
    (fun i o hi ho k a w hk => by
      have hl : (l.take n)[i]? = some o := by rw [List.getElem?_take, if_pos hi]; simpa using ho
      have := hop.get hl
      rw [Nat.zero_add] at this
      exact this k a w hk)
    htail n (List.range n) (Array.replicate l.toArray.size false) 0 a0 w0.drew List.nodup_range (by simp) (fun i => by
      rw [List.mem_range]
      refine ⟨fun hi => ⟨hi, getD_in (by simp; simp at hn; omega) (getD_replicate_false _ _)⟩, fun h => h.1⟩) (by omega)
    ⟨inv0, rfl, rfl, fun _ _ => rfl, fun i d _ _ hl => (by rw [getD_replicate_false] at hl; cases hl), fun i o _ _ _ hl => (by rw [getD_replicate_false] at hl; cases hl), hGr _, h0⟩
  rw [show n + (l.toArray.size - n) = l.toArray.size from by omega] at H
  exact H
end
end Go.Proofs.Ytalalapjanckdaa
