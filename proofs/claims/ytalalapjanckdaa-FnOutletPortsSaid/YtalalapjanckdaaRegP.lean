/- The law of RegS once more, where some operations of the head may come behind its stores: those of 'Pu' yield the same value in every world, so they may be thought of as taken first. No condition. -/
import Derived.Test.YtalalapjanckdaaMG
namespace Go.Proofs.Ytalalapjanckdaa
open Go Go.RowKit
section
variable {P : Program} {ops : Array Oper} {Q : Exit → Act → World → Prop}
def sinkP (ops : Array Oper) (n : Nat) (Pu : List Nat) : Bool :=
  (List.range n).all fun i => Pu.contains i || (List.range (n + 1)).any fun j => decide (i < j) && (decide (j = n) || !Pu.contains j) && Region.waitsFor .any ops j i
def baseP (ops : Array Oper) (n : Nat) (Pu : List Nat) : Array Bool := ((List.range ops.size).map fun j => decide (j < n) && !Pu.contains j).toArray
def regOkP (ops : Array Oper) (size n : Nat) (Pu : List Nat) : Bool :=
  decide (n < ops.size) && sinkP ops n Pu && Region.chainB .any ops n && headOkG ops size n && Region.seqB .any ops (ops.size - n) n (Array.replicate n true ++ Array.replicate (ops.size - n) false) && Region.noSelect ops && (Pu.all fun i => Region.free .any ops (baseP ops n Pu) i)
theorem free_mono {l1 l2 : Array Bool} {i : Nat} (h : Region.free .any ops l1 i = true) (hl : ∀ j, l1.getD j true = true → l2.getD j true = true) : Region.free .any ops l2 i = true := by
  unfold Region.free at *
  split at h
  · cases h
  · rename_i oi hoi
    rw [List.all_eq_true] at h ⊢
    intro j hj
    have h1 := h j hj
    simp only [Bool.or_eq_true] at h1 ⊢
    rcases h1 with (h1 | h1) | h1
    · exact .inl (.inl h1)
    · exact .inl (.inr (hl j h1))
    · exact .inr h1
theorem tail_waitsP {n : Nat} {Pu : List Nat} {listed : Array Bool} (hs : sinkP ops n Pu = true) (hc : Region.chainB .any ops n = true) (hn : n < ops.size) (inv : HeadInv .any ops n listed) :
    ∀ (d i : Nat), n - i = d → i < n → i ∉ Pu → listed.getD i true = false → ∀ t, n ≤ t → t ∉ Region.ready .any ops listed := by
  intro d
  induction d using Nat.strongRecOn with
  | _ d ih =>
    intro i hd hi hip hun t ht hr
    obtain ⟨_, ot, hot, hall⟩ := mem_ready.1 hr
    have htlt : t < ops.size := (Array.getElem?_eq_some_iff.1 hot).1
    by_cases htn : t = n
    · subst htn
      have h1 := List.all_eq_true.1 hs i (List.mem_range.2 hi)
      rw [Bool.or_eq_true] at h1
      rcases h1 with h1 | h1
      · exact hip (by simpa using h1)
      obtain ⟨j, hj, hj2⟩ := List.any_eq_true.1 h1
      simp only [Bool.and_eq_true, decide_eq_true_eq, Bool.or_eq_true, Bool.not_eq_true'] at hj2
      obtain ⟨⟨hij, hjp⟩, hw⟩ := hj2
      obtain ⟨oj, hoj, e, he, hb, hon⟩ := Region.waitsFor_spec hw
      have hjle : j ≤ t := by have := List.mem_range.1 hj; omega
      by_cases hjt : j = t
      · subst hjt
        have : oj = ot := Option.some.inj (hoj.symm.trans hot)
        subst this
        have h2 := hall e he hb
        rw [hon, getD_both hun] at h2
        cases h2
      · cases hl : listed.getD j false with
        | true =>
          have h2 := inv.closed j oj hoj hl e he hb
          rw [hon, getD_both hun] at h2
          cases h2
        | false =>
          have hjs : j < listed.size := by rw [inv.size]; omega
          have hjn : j ∉ Pu := by
            rcases hjp with h | h
            · exact absurd h hjt
            · simpa using h
          exact ih (t - j) (by omega) j rfl (by omega) hjn (getD_in hjs hl) t (Nat.le_refl _) hr
    · have h1 := List.all_eq_true.1 hc t (List.mem_range.2 htlt)
      simp only [Bool.or_eq_true, decide_eq_true_eq] at h1
      rcases h1 with h1 | h1
      · omega
      · obtain ⟨o', ho', e, he, hb, hon⟩ := Region.waitsFor_spec h1
        have : o' = ot := Option.some.inj (ho'.symm.trans hot)
        subst this
        have h2 := hall e he hb
        rw [hon, getD_both (inv.tail (t - 1) (by omega) (by omega))] at h2
        cases h2
theorem wpAny_typedP {n : Nat} {a0 : Act} {w0 : World} {G : World → World → Prop} {T : Tmp → Value → World → Prop} {F : Nat → Act → World → Prop} {W : Nat → World → Prop} (hGt : ∀ a b c, G a b → G b c → G a c) (l : List Oper) (hl : ops = l.toArray) (hn : n < ops.size)
    (Pu : List Nat) (hs : sinkP ops n Pu = true) (hc : Region.chainB .any ops n = true) (hok : headOkG ops a0.tmps.size n = true)
    (hseq : Region.seqB .any ops (ops.size - n) n (Array.replicate n true ++ Array.replicate (ops.size - n) false) = true)
    (hT : ∀ d v w w', T d v w → G w w' → T d v w') (hF : ∀ i o a a' w w', i < n → ops[i]? = some o → o.dst = none → F i a w → G w w' → (∀ s, (∃ e ∈ o.after, Region.binds .any e = true ∧ dstOf ops e.on = some s) → a'.tmps.getD s undef = a.tmps.getD s undef) → F i a' w')
    (hsel : Region.noSelect ops = true) (hQ : ∀ c a d v w, Q (.panic c) (a.put (some d) v) w → Q (.panic c) a w) (hfree : (Pu.all fun i => Region.free .any ops (baseP ops n Pu) i) = true) (hGr : ∀ a, G a a) (hWs : ∀ k w, W k w → W (k + 1) w)
    (hpure : ∀ i o, i ∈ Pu → ops[i]? = some o → ∀ a w, (∀ s, (∃ e ∈ o.after, Region.binds .any e = true ∧ dstOf ops e.on = some s) → T s (a.tmps.getD s undef) w) → ∃ d v, o.dst = some d ∧ Yields P ops o v a ∧ T d v w)
    (hop : ∀ i o, i < n → ops[i]? = some o → ∀ k a w, k < n → a.defers = a0.defers → (∀ s, (∀ j, j < n → dstOf ops j ≠ some s) → a.tmps.getD s undef = a0.tmps.getD s undef) →
      (∀ s, (∃ e ∈ o.after, Region.binds .any e = true ∧ dstOf ops e.on = some s) → T s (a.tmps.getD s undef) w) → G w0 w → W k w →
      Oper.wp P o a w (PostS G T F W k i o a w) Q)
    (htail : ∀ a w, a.tmps.size = a0.tmps.size → a.defers = a0.defers → (∀ s, (∀ j, j < n → dstOf ops j ≠ some s) → a.tmps.getD s undef = a0.tmps.getD s undef) →
      (∀ i d, i < n → dstOf ops i = some d → T d (a.tmps.getD d undef) w) → (∀ i o, i < n → ops[i]? = some o → o.dst = none → F i a w) → G w0 w → W n w → wpList P ops Q (l.drop n) a w) :
    ∀ (m : Nat) (L : List Nat) (listed : Array Bool) (k : Nat) (a : Act) (w : World), L.Nodup → L.length = m → (∀ i, i ∈ L ↔ (i < n ∧ listed.getD i true = false)) → k + m = n →
      RInvS ops n a0 w0 G T F W listed k a w → wpAny P .any ops Q (m + (ops.size - n)) listed a w := by
  intro m
  induction m with
  | zero =>
    intro L listed k a w _ hL hmem hk inv
    have hnil : L = [] := List.length_eq_zero_iff.1 hL
    subst hnil
    have hall : ∀ i, i < n → listed.getD i false = true := fun i hi => by
      have h1 : ¬ (i < n ∧ listed.getD i true = false) := fun h => by have := (hmem i).2 h; cases this
      have hsz : i < listed.size := by rw [inv.head.size]; omega
      cases hb : listed[i]'hsz with
      | true => simp [hsz, hb]
      | false => exact absurd ⟨hi, by simp [hsz, hb]⟩ h1
    have hlist : listed = Array.replicate n true ++ Array.replicate (ops.size - n) false := by
      apply Array.ext
      · simp [inv.head.size]; omega
      · intro i h1 h2
        by_cases hi : i < n
        · have := hall i hi
          simp only [Array.getD_eq_getD_getElem?, Array.getElem?_eq_getElem h1, Option.getD_some] at this
          rw [this, Array.getElem_append_left (by simpa using hi)]; simp
        · have := inv.head.tail i (by omega) (by rw [inv.head.size] at h1; exact h1)
          simp only [Array.getD_eq_getD_getElem?, Array.getElem?_eq_getElem h1, Option.getD_some] at this
          rw [this, Array.getElem_append_right (by simpa using hi)]; simp
    obtain rfl : k = n := by omega
    have hw := htail a w inv.size inv.defers inv.frame (fun i d hi hd => inv.typed i d hi hd (hall i hi)) (fun i o hi ho hd => inv.stored i o hi ho hd (hall i hi)) inv.grown inv.cnt
    rw [hlist]
    have hlen : (l.drop k).length = ops.size - k := by rw [hl]; simp
    have := wpAny_of_seq (md := .any) (Q' := Q) (P := P) (ops := ops) (l.drop k) k (Array.replicate k true ++ Array.replicate (ops.size - k) false) a w (fun j => by rw [hl]; simp [List.getElem?_drop]) (by rw [hlen]; exact hseq) hw
    rw [hlen] at this
    rw [Nat.zero_add]
    exact this
  | succ m ih =>
    intro L listed k a w hnd hL hmem hk inv
    rw [show m + 1 + (ops.size - n) = (m + (ops.size - n)) + 1 from by omega]
    -- some operation of the head is open
    have hopen : ∃ i, i < n ∧ listed.getD i true = false := by
      cases hLL : L with
      | nil => rw [hLL] at hL; cases hL
      | cons i r => exact ⟨i, (hmem i).1 (by rw [hLL]; simp)⟩
    have hleast : ∃ i, i < n ∧ listed.getD i true = false ∧ ∀ j, j < i → listed.getD j true ≠ false := by
      obtain ⟨i0, hi0⟩ := hopen
      have : ∀ b i, i ≤ b → i < n → listed.getD i true = false → ∃ i, i < n ∧ listed.getD i true = false ∧ ∀ j, j < i → listed.getD j true ≠ false := by
        intro b
        induction b with
        | zero => intro i hi h1 h2; exact ⟨i, h1, h2, fun j hj => by omega⟩
        | succ b ihb =>
          intro i hi h1 h2
          by_cases h : ∃ j, j < i ∧ listed.getD j true = false
          · obtain ⟨j, hj, hj2⟩ := h; exact ihb j (by omega) (by omega) hj2
          · exact ⟨i, h1, h2, fun j hj hj2 => h ⟨j, hj, hj2⟩⟩
      exact this i0 i0 (Nat.le_refl _) hi0.1 hi0.2
    obtain ⟨i1, hi1, hu1, hmin⟩ := hleast
    have hr1 : i1 ∈ Region.ready .any ops listed := by
      obtain ⟨o, ho, _, _, haft⟩ := headOk_specG hok hi1
      refine mem_ready.2 ⟨hu1, o, ho, fun e he hb => ?_⟩
      have := hmin e.on (haft e he hb)
      have hsz : e.on < listed.size := by rw [inv.head.size]; have := haft e he hb; omega
      simp only [Array.getD_eq_getD_getElem?, Array.getElem?_eq_getElem hsz, Option.getD_some] at this ⊢
      simpa using this
    by_cases hex : ∃ i, i < n ∧ i ∉ Pu ∧ listed.getD i true = false
    · obtain ⟨ip, hip1, hip2, hip3⟩ := hex
      refine ⟨fun h0 => (by rw [h0] at hr1; cases hr1), fun i hi => ?_⟩
      have hin : i < n := by
        rcases Nat.lt_or_ge i n with h | h
        · exact h
        · exact absurd hi (tail_waitsP hs hc hn inv.head _ ip rfl hip1 hip2 hip3 i h)
      obtain ⟨hui, oi, hoi, hall⟩ := mem_ready.1 hi
      obtain ⟨o, ho, hg, hdd, haft⟩ := headOk_specG hok hin
      obtain rfl : oi = o := Option.some.inj (hoi.symm.trans ho)
      have hstep := hop i oi hin ho k a w (by omega) inv.defers inv.frame (fun s ⟨e, he, hb, hes⟩ => inv.typed e.on s (by have := haft e he hb; omega) hes (hall e he hb)) inv.grown inv.cnt
      have hw : wpOp P ops Q i (PostS G T F W k i oi a w) a w := by
        unfold wpOp
        simp only [ho]
        rw [if_pos (by simp [Region.wanted, hg])]
        exact .inl hstep
      refine wpOp_mono (fun a' w' hh => ?_) hw
      obtain ⟨hgr, hW, hh⟩ := hh
      have hmem' : ∀ j, j ∈ L.erase i ↔ (j < n ∧ (listed.setIfInBounds i true).getD j true = false) := by
        intro j
        rw [hnd.mem_erase_iff, hmem j]
        by_cases hji : j = i
        · subst hji
          have hsz : j < listed.size := by rw [inv.head.size]; omega
          simp [hsz]
        · rw [getD_set_ne true (fun h => hji h.symm)]
          exact ⟨fun h => h.2, fun h => ⟨hji, h⟩⟩
      have hlen' : (L.erase i).length = m := by rw [List.length_erase_of_mem ((hmem i).2 ⟨hin, hui⟩), hL]; rfl
      cases hd : oi.dst with
      | none =>
        simp only [hd] at hh
        obtain ⟨rfl, hF'⟩ := hh
        refine ih (L.erase i) (listed.setIfInBounds i true) (k + 1) _ w' (hnd.erase i) hlen' hmem' (by omega) ⟨inv.head.set hi hin, inv.size, inv.defers, inv.frame, ?_, ?_, hGt _ _ _ inv.grown hgr, hW⟩
        · intro j s hj hjs hlj
          by_cases hji : j = i
          · subst hji
            simp [dstOf, ho, hd] at hjs
          · rw [getD_set_ne false (fun h => hji h.symm)] at hlj
            exact hT _ _ _ _ (inv.typed j s hj hjs hlj) hgr
        · intro j oj hj hoj hdj hlj
          by_cases hji : j = i
          · subst hji
            exact hF'
          · rw [getD_set_ne false (fun h => hji h.symm)] at hlj
            exact hF j oj _ _ _ _ hj hoj hdj (inv.stored j oj hj hoj hdj hlj) hgr (fun _ _ => rfl)
      | some d =>
        simp only [hd] at hh
        obtain ⟨v, rfl, hTv⟩ := hh
        obtain ⟨hds, hdist⟩ := hdd d hd
        have hdi : dstOf ops i = some d := by simp [dstOf, ho, hd]
        have hne : ∀ j s, j < n → j ≠ i → dstOf ops j = some s → s ≠ d := by
          intro j s hj hji hjs hsd
          subst hsd
          rcases Nat.lt_or_gt_of_ne hji with h | h
          · exact hdist j h hjs
          · obtain ⟨oj, hoj, _, hdj, _⟩ := headOk_specG hok hj
            have e1 : oj.dst = some s := by simpa [dstOf, hoj] using hjs
            exact (hdj s e1).2 i h hdi
        refine ih (L.erase i) (listed.setIfInBounds i true) (k + 1) _ w' (hnd.erase i) hlen' hmem' (by omega) ⟨inv.head.set hi hin, ?_, ?_, ?_, ?_, ?_, hGt _ _ _ inv.grown hgr, hW⟩
        · simp [Act.put, inv.size]
        · exact inv.defers
        · intro s hs'
          rw [getD_put (fun h => hs' i hin (by rw [hdi, h]))]
          exact inv.frame s hs'
        · intro j s hj hjs hlj
          by_cases hji : j = i
          · subst hji
            rw [hdi] at hjs
            injection hjs with e
            subst e
            rw [getD_put_same (by rw [inv.size]; exact hds)]
            exact hTv
          · rw [getD_put (hne j s hj hji hjs)]
            rw [getD_set_ne false (fun h => hji h.symm)] at hlj
            exact hT _ _ _ _ (inv.typed j s hj hjs hlj) hgr
        · intro j oj hj hoj hdj hlj
          by_cases hji : j = i
          · subst hji
            rw [hoj] at ho
            injection ho with e
            rw [e, hd] at hdj
            cases hdj
          · rw [getD_set_ne false (fun h => hji h.symm)] at hlj
            refine hF j oj _ _ _ _ hj hoj hdj (inv.stored j oj hj hoj hdj hlj) hgr (fun s ⟨e, he, hb, hes⟩ => ?_)
            have hle := inv.head.closed j oj hoj hlj e he hb
            have hen : e.on < n := by
              obtain ⟨o2, ho2, _, _, haft2⟩ := headOk_specG hok hj
              have : o2 = oj := Option.some.inj (ho2.symm.trans hoj)
              subst this
              have := haft2 e he hb
              omega
            have hei : e.on ≠ i := by
              intro h
              rw [h] at hle
              rw [getD_both hui] at hle
              cases hle
            exact getD_put (hne e.on s hen hei hes)
    · have hall1 : ∀ j, j < n → j ∉ Pu → listed.getD j true ≠ false := fun j h1 h2 h3 => hex ⟨j, h1, h2, h3⟩
      have hip : i1 ∈ Pu := Classical.byContradiction fun h => hall1 i1 hi1 h hu1
      obtain ⟨i, rfl⟩ : ∃ i, i = i1 := ⟨_, rfl⟩
      obtain ⟨hui, oi, hoi, hall⟩ := mem_ready.1 hr1
      have hin := hi1
      have hi := hr1
      obtain ⟨o, ho, hg, hdd, haft⟩ := headOk_specG hok hin
      obtain rfl : oi = o := Option.some.inj (hoi.symm.trans ho)
      obtain ⟨d, v, hd, hy, hTv⟩ := hpure i oi hip ho a w (fun s ⟨e, he, hb, hes⟩ => inv.typed e.on s (by have := haft e he hb; omega) hes (hall e he hb))
      have hgr := hGr w
      have hW := hWs k w inv.cnt
      have hfr : Region.free .any ops listed i = true := free_mono (List.all_eq_true.1 hfree i hip) (fun j hj => by
        unfold baseP at hj
        by_cases hjn : j < ops.size
        · have hj2 : (decide (j < n) && !Pu.contains j) = true := by
            simpa [hjn] using hj
          simp only [Bool.and_eq_true, decide_eq_true_eq, Bool.not_eq_true'] at hj2
          have := hall1 j hj2.1 (by simpa using hj2.2)
          simpa using this
        · simp [Array.getElem?_eq_none (show listed.size ≤ j by rw [inv.head.size]; omega)])
      rw [show (m + (ops.size - n)) + 1 = (m + (ops.size - n)) + 1 from rfl]
      refine wpAny_take ho hsel hfr (by simpa using hr1) (fun c a9 w9 h9 => hQ c a9 d v w9 (by rw [hd] at h9; exact h9)) hy ?_
      rw [hd]
      have hmem' : ∀ j, j ∈ L.erase i ↔ (j < n ∧ (listed.setIfInBounds i true).getD j true = false) := by
        intro j
        rw [hnd.mem_erase_iff, hmem j]
        by_cases hji : j = i
        · subst hji
          have hsz : j < listed.size := by rw [inv.head.size]; omega
          simp [hsz]
        · rw [getD_set_ne true (fun h => hji h.symm)]
          exact ⟨fun h => h.2, fun h => ⟨hji, h⟩⟩
      have hlen' : (L.erase i).length = m := by rw [List.length_erase_of_mem ((hmem i).2 ⟨hin, hui⟩), hL]; rfl
      obtain ⟨hds, hdist⟩ := hdd d hd
      have hdi : dstOf ops i = some d := by simp [dstOf, ho, hd]
      have hne : ∀ j s, j < n → j ≠ i → dstOf ops j = some s → s ≠ d := by
        intro j s hj hji hjs hsd
        subst hsd
        rcases Nat.lt_or_gt_of_ne hji with h | h
        · exact hdist j h hjs
        · obtain ⟨oj, hoj, _, hdj, _⟩ := headOk_specG hok hj
          have e1 : oj.dst = some s := by simpa [dstOf, hoj] using hjs
          exact (hdj s e1).2 i h hdi
      refine ih (L.erase i) (listed.setIfInBounds i true) (k + 1) _ w (hnd.erase i) hlen' hmem' (by omega) ⟨inv.head.set hi hin, ?_, ?_, ?_, ?_, ?_, hGt _ _ _ inv.grown hgr, hW⟩
      · simp [Act.put, inv.size]
      · exact inv.defers
      · intro s hs'
        rw [getD_put (fun h => hs' i hin (by rw [hdi, h]))]
        exact inv.frame s hs'
      · intro j s hj hjs hlj
        by_cases hji : j = i
        · subst hji
          rw [hdi] at hjs
          injection hjs with e
          subst e
          rw [getD_put_same (by rw [inv.size]; exact hds)]
          exact hTv
        · rw [getD_put (hne j s hj hji hjs)]
          rw [getD_set_ne false (fun h => hji h.symm)] at hlj
          exact hT _ _ _ _ (inv.typed j s hj hjs hlj) hgr
      · intro j oj hj hoj hdj hlj
        by_cases hji : j = i
        · subst hji
          rw [hoj] at ho
          injection ho with e
          rw [e, hd] at hdj
          cases hdj
        · rw [getD_set_ne false (fun h => hji h.symm)] at hlj
          refine hF j oj _ _ _ _ hj hoj hdj (inv.stored j oj hj hoj hdj hlj) hgr (fun s ⟨e, he, hb, hes⟩ => ?_)
          have hle := inv.head.closed j oj hoj hlj e he hb
          have hen : e.on < n := by
            obtain ⟨o2, ho2, _, _, haft2⟩ := headOk_specG hok hj
            have : o2 = oj := Option.some.inj (ho2.symm.trans hoj)
            subst this
            have := haft2 e he hb
            omega
          have hei : e.on ≠ i := by
            intro h
            rw [h] at hle
            rw [getD_both hui] at hle
            cases hle
          exact getD_put (hne e.on s hen hei hes)
theorem region_typedP {id : Nat} {a0 : Act} {w0 : World} {G : World → World → Prop} {T : Tmp → Value → World → Prop} {F : Nat → Act → World → Prop} {W : Nat → World → Prop} (hGr : ∀ a, G a a) (hGt : ∀ a b c, G a b → G b c → G a c) (hm : P.follows .mixedOrders = true) (l : List Oper) (n size : Nat) (hsize : a0.tmps.size = size) (Pu : List Nat) (hok : regOkP l.toArray size n Pu = true)
    (hT : ∀ d v w w', T d v w → G w w' → T d v w') (hF : ∀ i o a a' w w', i < n → l.toArray[i]? = some o → o.dst = none → F i a w → G w w' → (∀ s, (∃ e ∈ o.after, Region.binds .any e = true ∧ dstOf l.toArray e.on = some s) → a'.tmps.getD s undef = a.tmps.getD s undef) → F i a' w') (h0 : W 0 w0.drew) (hQ : ∀ c a d v w, Q (.panic c) (a.put (some d) v) w → Q (.panic c) a w) (hWs : ∀ k w, W k w → W (k + 1) w)
    (hpure : ∀ i o, i ∈ Pu → l.toArray[i]? = some o → ∀ a w, (∀ s, (∃ e ∈ o.after, Region.binds .any e = true ∧ dstOf l.toArray e.on = some s) → T s (a.tmps.getD s undef) w) → ∃ d v, o.dst = some d ∧ Yields P l.toArray o v a ∧ T d v w)
    (hop : AllOps (fun i o => ∀ k a w, k < n → a.defers = a0.defers → (∀ s, (∀ j, j < n → dstOf l.toArray j ≠ some s) → a.tmps.getD s undef = a0.tmps.getD s undef) →
      (∀ s, (∃ e ∈ o.after, Region.binds .any e = true ∧ dstOf l.toArray e.on = some s) → T s (a.tmps.getD s undef) w) → G w0.drew w → W k w →
      Oper.wp P o a w (PostS G T F W k i o a w) Q) 0 (l.take n))
    (htail : ∀ a w, a.tmps.size = size → a.defers = a0.defers → (∀ s, (∀ j, j < n → dstOf l.toArray j ≠ some s) → a.tmps.getD s undef = a0.tmps.getD s undef) →
      (∀ i d, i < n → dstOf l.toArray i = some d → T d (a.tmps.getD d undef) w) → (∀ i o, i < n → l.toArray[i]? = some o → o.dst = none → F i a w) → G w0.drew w → W n w → wpList P l.toArray Q (l.drop n) a w) :
    (Code.region id l.toArray true).wp P Q a0 w0 := by
  subst hsize
  simp only [regOkP, Bool.and_eq_true, decide_eq_true_eq] at hok
  obtain ⟨⟨⟨⟨⟨⟨hn, hs⟩, hc⟩, hh⟩, hseq⟩, hsel⟩, hfree⟩ := hok
  refine wp_region_any hm ?_
  have inv0 : HeadInv .any l.toArray n (Array.replicate l.toArray.size false) :=
    ⟨by simp, fun j oj _ hl => (by rw [getD_replicate_false] at hl; cases hl), fun t _ ht => getD_in (by simpa using ht) (getD_replicate_false _ _)⟩
  have H := wpAny_typedP (P := P) (Q := Q) (a0 := a0) (w0 := w0.drew) (F := F) hGt l rfl hn Pu hs hc hh hseq hT hF hsel hQ hfree hGr hWs hpure
    (fun i o hi ho k a w hk => by
      have hl : (l.take n)[i]? = some o := by rw [List.getElem?_take, if_pos hi]; simpa using ho
      have := hop.get hl
      rw [Nat.zero_add] at this
      exact this k a w hk)
    htail n (List.range n) (Array.replicate l.toArray.size false) 0 a0 w0.drew List.nodup_range (by simp) (fun i => by
      rw [List.mem_range]
      refine ⟨fun hi => ⟨hi, getD_in (by simp; simp at hn; omega) (getD_replicate_false _ _)⟩, fun h => h.1⟩) (by omega)
    ⟨inv0, rfl, rfl, fun _ _ => rfl, fun i d _ _ hl => (by rw [getD_replicate_false] at hl; cases hl), fun i o _ _ _ hl => (by rw [getD_replicate_false] at hl; cases hl), hGr _, h0⟩
  rw [show n + (l.toArray.size - n) = l.toArray.size from by omega] at H
  exact H
end
theorem region_anyP {id : Nat} {a0 : Act} {w0 : World} {Q : Exit → Act → World → Prop} (l : List Oper) (n size : Nat) (ds : List Tmp) (S : List BS) (tys : List (Tmp × SP)) (Pu : List Nat) (hsize : a0.tmps.size = size)
    (hok : (regOkP l.toArray size n Pu && decide (ds = (List.range n).filterMap (dstOf l.toArray))) = true)
    (hfree : ∀ s ∈ S, spFree S s.src = true) (htys : ∀ d, spFree S (spAt tys d) = true) (hdist : ∀ s ∈ S, ∀ s' ∈ S, s.T = s'.T → s = s')
    (hst : (S.all fun s => (List.range n).any fun i => match l.toArray[i]? with | some o => (match stBox S o with | some s' => decide (s'.slot = s.slot) | none => false) | none => false) = true)
    (hQ : ∀ c a d v w, Q (.panic c) (a.put (some d) v) w → Q (.panic c) a w)
    (hpure : ∀ i o, i ∈ Pu → l.toArray[i]? = some o → ∀ a w, (∀ s, (o.after.any fun e => Region.binds .any e && decide (dstOf l.toArray e.on = some s)) = true → SHas w0.heap.size S tys s (a.tmps.getD s undef) w) → ∃ d v, o.dst = some d ∧ Yields Try.prog l.toArray o v a ∧ SHas w0.heap.size S tys d v w)
    (hop : AllOps (OpS l n a0 w0 S tys Q) 0 (l.take n))
    (htail : ∀ (f : Tmp → Value) (w : World), (∀ d, d ∈ ds → DHas w0.heap.size S tys d (f d) w) → Below w0.heap.size w0 w → wpList Try.prog l.toArray Q (l.drop n) (putL ds f a0) w) :
    (Code.region id l.toArray true).wp Try.prog Q a0 w0 := by
  simp only [Bool.and_eq_true, decide_eq_true_eq] at hok
  obtain ⟨h1, hds⟩ := hok
  have hmemds : ∀ s, s ∈ ds ↔ ∃ j, j < n ∧ dstOf l.toArray j = some s := fun s => by
    rw [hds, List.mem_filterMap]
    exact ⟨fun ⟨j, hj, e⟩ => ⟨j, List.mem_range.1 hj, e⟩, fun ⟨j, hj, e⟩ => ⟨j, List.mem_range.2 hj, e⟩⟩
  have hdr : Below w0.heap.size w0 w0.drew := (Below.refl _ _).drew
  have hgb : ∀ {w : World}, GS w0.heap.size S w0.drew w → Below w0.heap.size w0 w := fun {w} h => by
    rcases h.below with h' | h'
    · exact Below.trans hdr h'
    · exact absurd h' (by show ¬ w0.heap.size < w0.heap.size; omega)
  refine region_typedP (Pu := Pu) (G := GS w0.heap.size S) (T := fun d => SHas w0.heap.size S tys d)
    (F := fun i a w => match l.toArray[i]? with | some o => (match stBox S o with | some s => (s ∈ S ∧ (o.after.any fun e => Region.binds .any e && decide (dstOf l.toArray e.on = some s.slot)) = true) ∧ BxDone w0.heap.size s (a.tmps.getD s.slot undef) w | none => True) | none => True)
    (W := fun _ _ => True) (fun a => gs_of (Below.refl _ _)) (fun a b c h k => h.trans hfree k) (by kernel_rfl) l n size hsize h1
    (fun d v w w' hh hg => ?_) ?_ trivial hQ (fun _ _ _ => trivial) ?_ ?_ ?_
  · unfold SHas at *
    cases hb : bsAt S d with
    | some s => rw [hb] at hh; exact BxHas.stable hfree hdist (bsAt_mem hb).1 hh hg
    | none => rw [hb] at hh; exact SP.free (htys d) hh hg
  · intro i o a a' w w' hi ho hd hF hg hs
    rw [ho] at hF ⊢
    dsimp only at hF ⊢
    cases hb : stBox S o with
    | none => trivial
    | some s =>
      rw [hb] at hF
      dsimp only at hF ⊢
      obtain ⟨⟨hs1, hs2⟩, hF⟩ := hF
      refine ⟨⟨hs1, hs2⟩, ?_⟩
      obtain ⟨e, he, hbe⟩ := Array.any_eq_true'.1 hs2
      simp only [Bool.and_eq_true, decide_eq_true_eq] at hbe
      rw [hs s.slot ⟨e, he, hbe.1, hbe.2⟩]
      exact BxDone.stable hfree hdist hs1 hF hg
  · intro i o hi ho a w hdep
    exact hpure i o hi ho a w (fun s hs => by
      obtain ⟨e, he, hb⟩ := Array.any_eq_true'.1 hs
      simp only [Bool.and_eq_true, decide_eq_true_eq] at hb
      exact hdep s ⟨e, he, hb.1, hb.2⟩)
  · have hall : ∀ (m : Nat) (r : List Oper), (∀ j o, r[j]? = some o → l.toArray[m + j]? = some o) → AllOps (OpS l n a0 w0 S tys Q) m r → AllOps (fun i o => ∀ k a w, k < n → a.defers = a0.defers → (∀ s, (∀ j, j < n → dstOf l.toArray j ≠ some s) → a.tmps.getD s undef = a0.tmps.getD s undef) →
      (∀ s, (∃ e ∈ o.after, Region.binds .any e = true ∧ dstOf l.toArray e.on = some s) → SHas w0.heap.size S tys s (a.tmps.getD s undef) w) → GS w0.heap.size S w0.drew w → True →
      Oper.wp Try.prog o a w (PostS (GS w0.heap.size S) (fun d => SHas w0.heap.size S tys d) (fun i a w => match l.toArray[i]? with | some o => (match stBox S o with | some s => (s ∈ S ∧ (o.after.any fun e => Region.binds .any e && decide (dstOf l.toArray e.on = some s.slot)) = true) ∧ BxDone w0.heap.size s (a.tmps.getD s.slot undef) w | none => True) | none => True) (fun _ _ => True) k i o a w) Q) m r := by
      intro m r
      induction r generalizing m with
      | nil => intro _ _; trivial
      | cons o r ih =>
        rintro hidx ⟨ho, hr⟩
        refine ⟨?_, ih _ (fun j o' hj => by have := hidx (j + 1) o' (by simpa using hj); rwa [show m + (j + 1) = m + 1 + j by omega] at this) hr⟩
        intro k a w _ _ hfrm hdep hgr _
        have hio : l.toArray[m]? = some o := by have := hidx 0 o rfl; rwa [Nat.add_zero] at this
        have h2 := ho a w (fun s hs => hfrm s fun j hj hjs => by
            have : isDst l.toArray n s = true := List.any_eq_true.2 ⟨j, List.mem_range.2 hj, by simpa using hjs⟩
            rw [this] at hs; cases hs) (fun s hs => by
            obtain ⟨e, he, hb⟩ := Array.any_eq_true'.1 hs
            simp only [Bool.and_eq_true, decide_eq_true_eq] at hb
            exact hdep s ⟨e, he, hb.1, hb.2⟩) (hgb hgr)
        cases hd : o.dst with
        | some d =>
          simp only [hd] at h2
          refine Oper.wp_mono (fun a' w' hg => ?_) h2
          obtain ⟨v, ha, hT, hgg⟩ := hg
          refine ⟨gs_of hgg, trivial, ?_⟩
          rw [hd]
          exact ⟨v, ha, hT⟩
        | none =>
          simp only [hd] at h2
          obtain ⟨s, hs1, hs2, hs3, h2⟩ := h2
          refine Oper.wp_mono (fun a' w' hg => ?_) h2
          obtain ⟨ha, g, cs, u, e1, e2, e3, e4, e5, e6, e7⟩ := hg
          have hGS : GS w0.heap.size S w w' := ⟨e6.os, e6.tape, e6.output, e6.size, fun b hb => by
            by_cases hbg : b = g
            · subst hbg
              refine .inr ⟨e2, s, hs2, cs, u, e3, e4, ?_⟩
              refine SP.free (hfree s hs2) e5 (B0 := w0.heap.size) ?_
              refine ⟨e6.os, e6.tape, e6.output, e6.size, fun b' hb' => ?_⟩
              by_cases hbb : b' = b
              · subst hbb
                exact .inr ⟨e2, s, hs2, cs, u, e3, e4, by
                  cases hsrc : s.src with
                  | val x => rw [hsrc] at e5; exact e5
                  | any => trivial
                  | row B e size n vs f =>
                    have hf := hfree s hs2
                    rw [hsrc] at e5 hf
                    simp only [spFree, List.all_eq_true, decide_eq_true_eq] at hf
                    obtain ⟨a9, c9, x1, x2⟩ := e5
                    exact ⟨a9, c9, x1, row_kept x2 e6 (fun q hq hqq => by cases hqq; exact row_ne x2 e3 (hf s hs2) hq)⟩
                  | bx B T cs' =>
                    have hf := hfree s hs2
                    rw [hsrc] at e5 hf
                    simp only [spFree, List.all_eq_true, decide_eq_true_eq] at hf
                    obtain ⟨g9, x1, x2, x3⟩ := e5
                    exact ⟨g9, x1, x2, Box.kept x3 e6 (fun hq => by cases hq; exact hf s hs2 (box_type e3 x3))⟩⟩
              · exact .inl (e6.block b' hb' (fun h => hbb (by injection h)))
            · exact .inl (e6.block b hb (fun h => hbg (by injection h)))⟩
          refine ⟨hGS, trivial, ?_⟩
          rw [hd]
          refine ⟨ha, ?_⟩
          dsimp only
          rw [hio]
          dsimp only
          rw [hs1]
          dsimp only
          refine ⟨⟨hs2, hs3⟩, g, u, e1, e2, e4, ?_⟩
          rcases hGS.block g e3.lt with k | ⟨_, s', hs', cs', u', k1, k2, k3⟩
          · exact SP.free (hfree s hs2) e5 hGS
          · exact SP.free (hfree s hs2) e5 hGS
    refine hall 0 _ (fun j o hj => ?_) hop
    rw [Nat.zero_add]
    rw [List.getElem?_take] at hj
    split at hj
    · simpa using hj
    · cases hj
  · intro a w hsz hdef hfrm htyp hF hgr _
    have hpe := putL_eq (ds := ds) (a0 := a0) (a := a) (by rw [hsz, hsize]) hdef (fun s hs => hfrm s (fun j hj hjs => hs ((hmemds s).2 ⟨j, hj, hjs⟩)))
    rw [← hpe]
    refine htail (fun d => a.tmps.getD d undef) w (fun d hd => ?_) (hgb hgr)
    obtain ⟨j, hj, hjs⟩ := (hmemds d).1 hd
    have hT := htyp j d hj hjs
    unfold SHas at hT
    unfold DHas
    cases hb : bsAt S d with
    | none => rw [hb] at hT; exact hT
    | some s =>
      dsimp only
      obtain ⟨hsm, rfl⟩ := bsAt_mem hb
      have h5 := List.all_eq_true.1 hst s hsm
      obtain ⟨i, hi, h6⟩ := List.any_eq_true.1 h5
      rw [List.mem_range] at hi
      cases ho : l.toArray[i]? with
      | none => rw [ho] at h6; cases h6
      | some o =>
        rw [ho] at h6
        dsimp only at h6
        cases hsb : stBox S o with
        | none => rw [hsb] at h6; cases h6
        | some s' =>
          rw [hsb] at h6
          simp only [decide_eq_true_eq] at h6
          have hdn : o.dst = none := by
            unfold stBox at hsb
            split at hsb
            · assumption
            · cases hsb
          have hFi := hF i o hi ho hdn
          simp only [ho, hsb] at hFi
          have hss : s' = s := by
            unfold stBox at hsb
            split at hsb
            · have e1 := (bsAt_mem hsb).2
              rw [← h6] at hb
              rw [← e1] at hb
              rw [hb] at hsb
              injection hsb with hsb
              exact hsb.symm
            · cases hsb
          subst hss
          exact hFi.2
end Go.Proofs.Ytalalapjanckdaa
