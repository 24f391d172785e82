/- Plain laws of RunEvents: events are valid, what they lead to, and that flows stick. No program in sight but the seat's own name. -/
import Derived.Test.YtdkdfehlmphikaaPfw
namespace Go.Proofs.Ytdkdfehlmphikaa
open Go.RowKit
/-- An event: its time and its flow. -/
abbrev V6 := Int × F5
def v0 : V6 := (0, (0, 0, 0, 0, 0))
/-- One event is valid behind the one ahead of it. -/
def vOk (vs : List V6) (k : Nat) : Bool := inB (vs.getD k v0).1 0 100000 && fv (vs.getD k v0).2 && (decide (k = 0) || !decide ((vs.getD k v0).1 < (vs.getD (k - 1) v0).1))
/-- Events are valid. -/
def evB (vs : List V6) : Bool := (List.range vs.length).all (vOk vs) && decide (vs.length ≤ 40)
/-- One event is run. -/
def runS (hs : List H3) (q : T3 × List Int) (v : V6) : T3 × List Int := ((fwdT hs q.1 v.2 v.1).1, q.2 ++ [(fwdT hs q.1 v.2 v.1).2])
/-- Events are run, from a table without entries. -/
def runK (hs : List H3) (sz st : Int) (vs : List V6) : T3 × List Int := vs.foldl (runS hs) ((sz, st, []), [])
/-- All that is asked of RunEvents' arguments. -/
def runB (hs : List H3) (sz st : Int) (vs : List V6) : Bool := pv hs && tv sz st [] && evB vs
/-- The hosts, the table then, and whether the arguments were valid. -/
def runT (hs : List H3) (sz st : Int) (vs : List V6) : List Int × T3 × Bool := if runB hs sz st vs = true then ((runK hs sz st vs).2, (runK hs sz st vs).1, true) else ([], (0, 0, []), false)
theorem run_no {hs : List H3} {sz st : Int} {vs : List V6} (h : runB hs sz st vs = false) : runT hs sz st vs = ([], (0, 0, []), false) := by rw [runT, h]; rfl
theorem run_yes {hs : List H3} {sz st : Int} {vs : List V6} (h : runB hs sz st vs = true) : runT hs sz st vs = ((runK hs sz st vs).2, (runK hs sz st vs).1, true) := by rw [runT, if_pos h]
theorem run_zero (hs : List H3) (sz st : Int) (vs : List V6) : runK hs sz st (vs.take 0) = ((sz, st, []), []) := by simp [runK]
theorem run_succ (hs : List H3) (sz st : Int) {vs : List V6} {i : Nat} (h : i < vs.length) : runK hs sz st (vs.take (i + 1)) = runS hs (runK hs sz st (vs.take i)) (vs.getD i v0) := by
  have e : vs.take (i + 1) = vs.take i ++ [vs.getD i v0] := by
    rw [List.take_add_one, List.getD_eq_getElem?_getD, List.getElem?_eq_getElem h]; rfl
  unfold runK
  rw [e, List.foldl_append]; rfl
theorem run_len (hs : List H3) (sz st : Int) (vs : List V6) : ∀ i, i ≤ vs.length → (runK hs sz st (vs.take i)).2.length = i
  | 0, _ => by rw [run_zero]; rfl
  | i + 1, h => by
    rw [run_succ hs sz st (by omega)]
    have := run_len hs sz st vs i (by omega)
    simp [runS, this]
theorem run_all (hs : List H3) (sz st : Int) (vs : List V6) : runK hs sz st (vs.take vs.length) = runK hs sz st vs := by rw [List.take_length]
theorem run_len' (hs : List H3) (sz st : Int) (vs : List V6) : (runK hs sz st vs).2.length = vs.length := by
  have := run_len hs sz st vs vs.length (Nat.le_refl _)
  rwa [run_all] at this
/-- The host of an event. -/
theorem run_get (hs : List H3) (sz st : Int) {vs : List V6} {i : Nat} (h : i < vs.length) : ∀ m, i < m → m ≤ vs.length → (runK hs sz st (vs.take m)).2.getD i 0 = (fwdT hs (runK hs sz st (vs.take i)).1 (vs.getD i v0).2 (vs.getD i v0).1).2
  | 0, h1, _ => by omega
  | m + 1, h1, h2 => by
    rw [run_succ hs sz st (by omega)]
    have hl := run_len hs sz st vs m (by omega)
    by_cases hm : i = m
    · subst hm
      simp only [runS]
      rw [List.getD_eq_getElem?_getD, List.getElem?_append_right (by omega), hl, Nat.sub_self]; rfl
    · have := run_get hs sz st h m (by omega) (by omega)
      rw [← this]
      simp only [runS]
      rw [List.getD_eq_getElem?_getD, List.getElem?_append_left (by omega), ← List.getD_eq_getElem?_getD]
theorem run_get' (hs : List H3) (sz st : Int) {vs : List V6} {i : Nat} (h : i < vs.length) : (runK hs sz st vs).2.getD i 0 = (fwdT hs (runK hs sz st (vs.take i)).1 (vs.getD i v0).2 (vs.getD i v0).1).2 := by
  have := run_get hs sz st h vs.length h (Nat.le_refl _)
  rwa [run_all] at this
structure EV (vs : List V6) : Prop where
  time : ∀ i, i < vs.length → inB (vs.getD i v0).1 0 100000 = true
  flow : ∀ i, i < vs.length → fv (vs.getD i v0).2 = true
  rise : ∀ i, i + 1 < vs.length → (vs.getD i v0).1 ≤ (vs.getD (i + 1) v0).1
  room : vs.length ≤ 40
theorem ev_EV {vs : List V6} (h : evB vs = true) : EV vs := by
  simp only [evB, Bool.and_eq_true, List.all_eq_true, List.mem_range, decide_eq_true_eq] at h
  obtain ⟨h1, h2⟩ := h
  have p : ∀ i, i < vs.length → (inB (vs.getD i v0).1 0 100000 = true ∧ fv (vs.getD i v0).2 = true) ∧ (i = 0 ∨ ¬ (vs.getD i v0).1 < (vs.getD (i - 1) v0).1) := fun i hi => by
    have := h1 i hi
    simpa only [vOk, Bool.and_eq_true, Bool.or_eq_true, decide_eq_true_eq, Bool.not_eq_true', decide_eq_false_iff_not] using this
  refine ⟨fun i hi => (p i hi).1.1, fun i hi => (p i hi).1.2, fun i hi => ?_, h2⟩
  have := (p (i + 1) hi).2
  simp only [Nat.add_sub_cancel] at this
  omega
theorem EV.le {vs : List V6} (h : EV vs) {i : Nat} : ∀ j, i ≤ j → j < vs.length → (vs.getD i v0).1 ≤ (vs.getD j v0).1
  | 0, h1, h2 => by
    obtain rfl : i = 0 := by omega
    exact Int.le_refl _
  | j + 1, h1, h2 => by
    by_cases hij : i = j + 1
    · subst hij; exact Int.le_refl _
    · exact Int.le_trans (h.le j (by omega) (by omega)) (h.rise j h2)
/-- What a packet leaves behind: the entries that stay, cut, and perhaps the flow's new one. -/
theorem fwd_next {hs : List H3} {sz st : Int} {es : List E7} {f : F5} {now : Int} (hp : pv hs = true) (ht : tv sz st es = true) (hf : fv f = true) (hw : fitB es now = true) :
    ∃ es', (fwdT hs (sz, st, es) f now).1 = (sz, st, es') ∧ tv sz st es' = true ∧ es'.length ≤ es.length + 1 ∧ (∀ e ∈ es', e ∈ es ∨ e.2.2 = now) ∧ (∀ e ∈ es', e.1 = f ∨ e ∈ es) ∧
      ((es.length : Int) < sz → ∀ e ∈ es, e.1 ≠ f → oldB now st e = false → e ∈ es') := by
  have hk : tv sz st (keepT st now es) = true := exp_valid ht
  have hkl : (keepT st now es).length ≤ es.length := List.length_filter_le _ _
  rcases fwd_yes (hs := hs) hp ht hf hw with ⟨_, hv⟩ | ⟨_, hB, hv⟩
  · rw [hv]
    refine ⟨_, rfl, drop_valid f hk, ?_, fun e he => .inl (keep_new (List.mem_filter.1 he).1).1, fun e he => .inr (keep_new (List.mem_filter.1 he).1).1, fun _ e he hf ho => ?_⟩
    · have := List.length_filter_le (fun e : E7 => !decide (e.1 = f)) (keepT st now es)
      omega
    · exact List.mem_filter.2 ⟨List.mem_filter.2 ⟨he, by rw [ho]; rfl⟩, by simp [hf]⟩
  · rw [hv]
    refine ⟨_, rfl, tou_valid hB, ?_, fun e he => ?_, fun e he => ?_, fun hsz e he hf ho => ?_⟩
    · have := (rest_sub sz (keepT st now es) f).length_le
      rw [List.length_append]
      simp only [List.length_cons, List.length_nil]
      omega
    · rcases List.mem_append.1 he with he | he
      · exact .inl (keep_new ((rest_sub _ _ _).subset he)).1
      · rw [List.mem_singleton.1 he]; exact .inr rfl
    · rcases List.mem_append.1 he with he | he
      · exact .inr (keep_new ((rest_sub _ _ _).subset he)).1
      · rw [List.mem_singleton.1 he]; exact .inl rfl
    · refine List.mem_append.2 (.inl ?_)
      have hm : e ∈ keepT st now es := List.mem_filter.2 ⟨he, by rw [ho]; rfl⟩
      unfold restT
      split
      · exact List.mem_filter.2 ⟨hm, by simp [hf]⟩
      · rw [if_neg (by omega)]
        exact hm
/-- What is known ahead of an event. -/
theorem run_inv {hs : List H3} {sz st : Int} {vs : List V6} (h : runB hs sz st vs = true) : ∀ i, i ≤ vs.length → ∃ es, (runK hs sz st (vs.take i)).1 = (sz, st, es) ∧ tv sz st es = true ∧ es.length ≤ i ∧ (i < vs.length → fitB es (vs.getD i v0).1 = true)
  | 0, _ => by
    simp only [runB, Bool.and_eq_true] at h
    rw [run_zero]
    exact ⟨[], rfl, h.1.2, Nat.le_refl _, fun hi => fitB_of ((ev_EV h.2).time 0 hi) (fun e he => by cases he)⟩
  | i + 1, hi => by
    obtain ⟨es, h1, h2, h3, h4⟩ := run_inv h i (by omega)
    simp only [runB, Bool.and_eq_true] at h
    have E := ev_EV h.2
    have hw := h4 (by omega)
    obtain ⟨es', k1, k2, k3, k4, _, _⟩ := fwd_next (hs := hs) h.1.1 h2 (E.flow i (by omega)) hw
    rw [run_succ hs sz st (by omega)]
    refine ⟨es', by simp only [runS, h1]; exact k1, k2, by omega, fun hi1 => fitB_of (E.time _ hi1) (fun e he => ?_)⟩
    have hr := E.rise i hi1
    rcases k4 e he with h5 | h5
    · have := (tv_TV h2).last h5
      have := (fit_now hw).2
      omega
    · omega
/-- What is known of a flow behind its event, until its next one: it has its host's entry, or there is no host for it. -/
def Stuck (hs : List H3) (es : List E7) (f : F5) (h at' : Int) : Prop := (0 ≤ h ∧ (f, h, at') ∈ es ∧ Sure hs f h) ∨ (h = -1 ∧ f ∉ es.map (·.1) ∧ rendV hs (hashV f) < 0)
theorem stuck_new {hs : List H3} {sz st : Int} {es es' : List E7} {f : F5} {now : Int} (hp : pv hs = true) (ht : tv sz st es = true) (hf : fv f = true) (hw : fitB es now = true) (he : (fwdT hs (sz, st, es) f now).1 = (sz, st, es')) :
    Stuck hs es' f (fwdT hs (sz, st, es) f now).2 now := by
  have hk : tv sz st (keepT st now es) = true := exp_valid ht
  rcases fwd_yes (hs := hs) hp ht hf hw with ⟨hc, hv⟩ | ⟨h0, hB, hv⟩
  · rw [hv] at he ⊢
    injection he with _ he
    injection he with _ he
    subst he
    refine .inr ⟨rfl, fun hm => ?_, ?_⟩
    · obtain ⟨e, he, hfe⟩ := List.mem_map.1 hm
      have := (List.mem_filter.1 he).2
      simp [hfe] at this
    · rcases choose_cases (hs := hs) (f := f) hp hk hf with ⟨h1, _, h2⟩ | ⟨_, h2⟩
      · omega
      · omega
  · rw [hv] at he ⊢
    injection he with _ he
    injection he with _ he
    subst he
    exact .inl ⟨h0, List.mem_append.2 (.inr (List.mem_singleton.2 rfl)), (choose_bd (hs := hs) hp hk hf).2⟩
theorem stuck_step {hs : List H3} {sz st : Int} {es es' : List E7} {f g : F5} {h at' now : Int} (hp : pv hs = true) (ht : tv sz st es = true) (hg : fv g = true) (hw : fitB es now = true) (he : (fwdT hs (sz, st, es) g now).1 = (sz, st, es')) (hfg : g ≠ f) (hsz : (es.length : Int) < sz) (hn : now - at' < st)
    (hS : Stuck hs es f h at') : Stuck hs es' f h at' := by
  obtain ⟨e2, h1, _, _, _, h5, h6⟩ := fwd_next (hs := hs) hp ht hg hw
  rw [he] at h1
  injection h1 with _ h1
  injection h1 with _ h1
  subst h1
  rcases hS with ⟨a, b, c⟩ | ⟨a, b, c⟩
  · refine .inl ⟨a, h6 hsz _ b (fun e => hfg e.symm) ?_, c⟩
    unfold oldB
    rw [decide_eq_false (by dsimp only; omega)]
  · refine .inr ⟨a, fun hm => ?_, c⟩
    obtain ⟨e, hem, hfe⟩ := List.mem_map.1 hm
    rcases h5 e hem with h7 | h7
    · exact hfg (h7.symm.trans hfe)
    · exact b (List.mem_map.2 ⟨e, h7, hfe⟩)
theorem stuck_now {hs : List H3} {sz st : Int} {es : List E7} {f : F5} {h at' now : Int} (hp : pv hs = true) (ht : tv sz st es = true) (hf : fv f = true) (hw : fitB es now = true) (hn : now - at' < st) (hS : Stuck hs es f h at') : (fwdT hs (sz, st, es) f now).2 = h := by
  have hk : tv sz st (keepT st now es) = true := exp_valid ht
  rcases hS with ⟨a, b, c⟩ | ⟨a, b, c⟩
  · have hm : (f, h, at') ∈ keepT st now es := List.mem_filter.2 ⟨b, by
      unfold oldB
      rw [decide_eq_false (by dsimp only; omega)]; rfl⟩
    have hF : findT (sz, st, keepT st now es) f = h := find_mem hk hm
    have hch := choose_sure hp hk hf a hF c
    rcases fwd_yes (hs := hs) hp ht hf hw with ⟨hc, _⟩ | ⟨_, _, hv⟩
    · omega
    · rw [hv]; exact hch
  · have hF : findT (sz, st, keepT st now es) f = -1 := find_no fun hm => by
      obtain ⟨e, hem, hfe⟩ := List.mem_map.1 hm
      exact b (List.mem_map.2 ⟨e, (keep_new hem).1, hfe⟩)
    have hch := choose_none hp hk hf hF
    rcases fwd_yes (hs := hs) hp ht hf hw with ⟨_, hv⟩ | ⟨h0, _, _⟩
    · rw [hv, a]
    · omega
/-- Flows stick: the next event of a flow, before its entry is too old, has the same host. -/
theorem run_sticks {hs : List H3} {sz st : Int} {vs : List V6} (h : runB hs sz st vs = true) (hsz : (vs.length : Int) ≤ sz) {k j : Nat} (hkj : k < j) (hj : j < vs.length) (hne : ∀ i, k < i → i < j → (vs.getD i v0).2 ≠ (vs.getD k v0).2) (heq : (vs.getD j v0).2 = (vs.getD k v0).2)
    (hn : (vs.getD j v0).1 - (vs.getD k v0).1 < st) : (runK hs sz st vs).2.getD j 0 = (runK hs sz st vs).2.getD k 0 := by
  have hb := h
  simp only [runB, Bool.and_eq_true] at hb
  have E := ev_EV hb.2
  rw [run_get' hs sz st hj, run_get' hs sz st (by omega : k < vs.length)]
  obtain ⟨ek, a1, a2, a3, a4⟩ := run_inv h k (by omega)
  have aw := a4 (by omega)
  have key : ∀ i, k < i → i ≤ j → ∀ es, (runK hs sz st (vs.take i)).1 = (sz, st, es) → Stuck hs es (vs.getD k v0).2 (fwdT hs (runK hs sz st (vs.take k)).1 (vs.getD k v0).2 (vs.getD k v0).1).2 (vs.getD k v0).1 := by
    intro i
    induction i with
    | zero => intro h1; omega
    | succ i ih =>
      intro h1 h2 es hes
      rw [run_succ hs sz st (by omega)] at hes
      simp only [runS] at hes
      by_cases hik : i = k
      · subst hik
        rw [a1] at hes ⊢
        exact stuck_new hb.1.1 a2 (E.flow _ (by omega)) aw hes
      · obtain ⟨ei, b1, b2, b3, b4⟩ := run_inv h i (by omega)
        have := ih (by omega) (by omega) ei b1
        rw [b1] at hes
        have hle := E.le j (i := i) (by omega) hj
        exact stuck_step hb.1.1 b2 (E.flow _ (by omega)) (b4 (by omega)) hes (hne i (by omega) (by omega)) (by omega) (by omega) this
  obtain ⟨ej, c1, c2, c3, c4⟩ := run_inv h j (by omega)
  have hS := key j hkj (Nat.le_refl _) ej c1
  rw [c1]
  rw [heq]
  exact stuck_now hb.1.1 c2 (E.flow k (by omega)) (c4 hj) hn hS
/-- The table at the end is valid, of the size and the time to stay. -/
theorem run_end {hs : List H3} {sz st : Int} {vs : List V6} (h : runB hs sz st vs = true) : ∃ es, (runK hs sz st vs).1 = (sz, st, es) ∧ tv sz st es = true := by
  obtain ⟨es, h1, h2, _, _⟩ := run_inv h vs.length (Nat.le_refl _)
  rw [run_all] at h1
  exact ⟨es, h1, h2⟩
end Go.Proofs.Ytdkdfehlmphikaa
