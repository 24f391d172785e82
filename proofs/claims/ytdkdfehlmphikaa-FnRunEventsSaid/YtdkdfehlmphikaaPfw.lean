/- Plain laws of ForwardPacket: a packet of the same flow at the same time, and later ones. No program in sight but the seat's own name. -/
import Derived.Test.YtdkdfehlmphikaaFwp
import Derived.Test.YtdkdfehlmphikaaPut
namespace Go.Proofs.Ytdkdfehlmphikaa
open Go.RowKit
theorem pv_num {hs : List H3} (h : pv hs = true) {j : Nat} (hj : j < hs.length) : 0 ≤ (hs.getD j (0, 0, 0)).1 ∧ (hs.getD j (0, 0, 0)).1 ≤ 30 := by
  simp only [pv, Bool.and_eq_true, List.all_eq_true, List.mem_range] at h
  have := h.1 j hj
  simp only [hOk, Bool.and_eq_true] at this
  exact inB_true.1 this.1.1.1
theorem rTk_fst (key N : Int) (s : Int × Int) : ∀ t, (rTk key N s t).1 = s.1 ∨ (rTk key N s t).1 = N
  | 0 => .inl rfl
  | t + 1 => by
    have := rTk_fst key N s t
    simp only [rTk, rStep]
    split
    · exact .inr rfl
    · exact this
theorem fold_fst (key : Int) (us : List H3) : ∀ s : Int × Int, (us.foldl (rF key) s).1 = s.1 ∨ ∃ h ∈ us, (us.foldl (rF key) s).1 = h.1 := by
  induction us with
  | nil => intro s; exact .inl rfl
  | cons u r ih =>
    intro s
    rw [List.foldl_cons]
    rcases ih (rF key s u) with h | ⟨h, hm, he⟩
    · rw [h]
      rcases rTk_fst key u.1 s u.2.1.toNat with h1 | h1
      · exact .inl h1
      · exact .inr ⟨u, List.mem_cons_self, h1⟩
    · exact .inr ⟨h, List.mem_cons_of_mem _ hm, he⟩
theorem rend_le (hs : List H3) (key : Int) : -1 ≤ rendV hs key ∧ rendV hs key ≤ 30 := by
  unfold rendV
  split
  · rename_i h
    simp only [Bool.and_eq_true] at h
    rw [rTo_all]
    rcases fold_fst key (upV hs) (-1, -1) with h1 | ⟨x, hm, h1⟩
    · rw [h1]; dsimp only; omega
    · obtain ⟨j, hj, hx⟩ := upTo_mem hs.length (Nat.le_refl _) hm
      have := pv_num h.1 hj
      rw [hx] at this
      rw [h1]; omega
  · omega
/-- How the host for a packet is found: that of an entry, with a state, or the one that the flow's hash chooses. -/
theorem choose_cases {hs : List H3} {sz st : Int} {es : List E7} {f : F5} (hp : pv hs = true) (ht : tv sz st es = true) (hf : fv f = true) :
    (0 ≤ findT (sz, st, es) f ∧ stV hs (findT (sz, st, es) f) ≠ 0 ∧ chooseT hs (sz, st, es) f = findT (sz, st, es) f) ∨ (¬ (0 ≤ findT (sz, st, es) f ∧ stV hs (findT (sz, st, es) f) ≠ 0) ∧ chooseT hs (sz, st, es) f = rendV hs (hashV f)) := by
  unfold chooseT
  rw [if_pos (by rw [hp, ht, hf]; rfl)]
  split
  · rename_i h; exact .inl ⟨h.1, h.2, rfl⟩
  · rename_i h; exact .inr ⟨h, rfl⟩
/-- What is known of a host that a flow has: it has a state, or it is the one that the hash chooses. -/
def Sure (hs : List H3) (f : F5) (h : Int) : Prop := stV hs h ≠ 0 ∨ rendV hs (hashV f) = h
theorem choose_sure {hs : List H3} {sz st : Int} {es : List E7} {f : F5} (hp : pv hs = true) (ht : tv sz st es = true) (hf : fv f = true) {h : Int} (h0 : 0 ≤ h) (he : findT (sz, st, es) f = h) (hs' : Sure hs f h) : chooseT hs (sz, st, es) f = h := by
  rcases choose_cases (hs := hs) (f := f) hp ht hf with ⟨_, _, h1⟩ | ⟨h1, h2⟩
  · rw [h1, he]
  · rw [h2]
    rcases hs' with h3 | h3
    · exact absurd ⟨by rw [he]; exact h0, by rw [he]; exact h3⟩ h1
    · exact h3
theorem choose_none {hs : List H3} {sz st : Int} {es : List E7} {f : F5} (hp : pv hs = true) (ht : tv sz st es = true) (hf : fv f = true) (he : findT (sz, st, es) f = -1) : chooseT hs (sz, st, es) f = rendV hs (hashV f) := by
  rcases choose_cases (hs := hs) (f := f) hp ht hf with ⟨h, _, _⟩ | ⟨_, h2⟩
  · rw [he] at h; omega
  · exact h2
/-- A chosen host's range. -/
theorem choose_bd {hs : List H3} {sz st : Int} {es : List E7} {f : F5} (hp : pv hs = true) (ht : tv sz st es = true) (hf : fv f = true) : chooseT hs (sz, st, es) f ≤ 30 ∧ Sure hs f (chooseT hs (sz, st, es) f) := by
  rcases choose_cases (hs := hs) (f := f) hp ht hf with ⟨h0, h, h1⟩ | ⟨_, h2⟩
  · rw [h1]
    refine ⟨?_, .inl h⟩
    rcases find_cases f ht with ⟨_, h3⟩ | ⟨e, he, _, h3⟩
    · rw [h3]; omega
    · rw [h3]; exact (inB_true.1 ((tv_TV ht).good e he).2.1).2
  · rw [h2]; exact ⟨(rend_le hs _).2, .inr rfl⟩
/-- The entries that stay at a time. -/
def keepT (st now : Int) (es : List E7) : List E7 := es.filter (fun e => !oldB now st e)
theorem exp_yes {sz st now : Int} {es : List E7} (h : tv sz st es = true) (hf : fitB es now = true) : expT (sz, st, es) now = (sz, st, keepT st now es) := by
  unfold expT
  rw [if_pos (by rw [h, hf]; rfl)]; rfl
/-- All that is asked of ForwardPacket's arguments. -/
def fwdB (hs : List H3) (t : T3) (f : F5) (now : Int) : Bool := pv hs && tv t.1 t.2.1 t.2.2 && fv f && fitB t.2.2 now
theorem fwd_no {hs : List H3} {t : T3} {f : F5} {now : Int} (h : fwdB hs t f now = false) : fwdT hs t f now = ((0, 0, []), -1) := by
  unfold fwdT
  rw [if_neg (by rw [← fwdB, h]; simp)]
/-- What a packet does: the flow's host is not there and there is none, or the flow stands last. -/
theorem fwd_yes {hs : List H3} {sz st : Int} {es : List E7} {f : F5} {now : Int} (hp : pv hs = true) (ht : tv sz st es = true) (hf : fv f = true) (hw : fitB es now = true) :
    (chooseT hs (sz, st, keepT st now es) f < 0 ∧ fwdT hs (sz, st, es) f now = ((sz, st, (keepT st now es).filter (fun e => !decide (e.1 = f))), -1)) ∨
    (0 ≤ chooseT hs (sz, st, keepT st now es) f ∧ touchB (sz, st, keepT st now es) f (chooseT hs (sz, st, keepT st now es) f) now = true ∧
      fwdT hs (sz, st, es) f now = ((sz, st, restT sz (keepT st now es) f ++ [(f, chooseT hs (sz, st, keepT st now es) f, now)]), chooseT hs (sz, st, keepT st now es) f)) := by
  have hk : tv sz st (keepT st now es) = true := exp_valid ht
  have hx := exp_yes ht hw
  unfold fwdT
  rw [if_pos (by rw [hp, ht, hf, hw]; rfl), hx]
  split
  · rename_i h
    left
    refine ⟨h, ?_⟩
    unfold dropT
    rw [if_pos hk]
  · rename_i h
    right
    have h0 : 0 ≤ chooseT hs (sz, st, keepT st now es) f := by omega
    have hb : touchB (sz, st, keepT st now es) f (chooseT hs (sz, st, keepT st now es) f) now = true := by
      have h1 := (choose_bd (hs := hs) hp hk hf).1
      have h2 : inB (chooseT hs (sz, st, keepT st now es) f) 0 30 = true := inB_true.2 ⟨h0, h1⟩
      have h3 : fitB (keepT st now es) now = true := fitB_of (fit_now hw).1 (fun e he => Int.le_trans ((tv_TV ht).last (List.mem_filter.1 he).1) (fit_now hw).2)
      unfold touchB
      rw [hk, hf, h2, h3]; rfl
    exact ⟨h0, hb, by rw [tou_yes hb]⟩
theorem keepT_all {st now : Int} {es : List E7} (h : ∀ e ∈ es, oldB now st e = false) : keepT st now es = es := by
  unfold keepT
  rw [List.filter_eq_self]
  intro e he
  rw [h e he]; rfl
theorem keep_new {st now : Int} {es : List E7} {e : E7} (he : e ∈ keepT st now es) : e ∈ es ∧ oldB now st e = false := by
  have := List.mem_filter.1 he
  exact ⟨this.1, by simpa using this.2⟩
theorem old_now {st now : Int} (h : inB st 1 100000 = true) (f : F5) (ho : Int) : oldB now st (f, ho, now) = false := by
  have := (inB_true.1 h).1
  unfold oldB
  rw [decide_eq_false (by dsimp only; omega)]
theorem rest_last {sz : Int} {ks : List E7} {f : F5} {ho now : Int} (hn : ∀ k ∈ ks, k.1 ≠ f) : restT sz (ks ++ [(f, ho, now)]) f = ks := by
  unfold restT
  rw [if_pos (by simp), List.filter_append]
  have h1 : ks.filter (fun e => !decide (e.1 = f)) = ks := by
    rw [List.filter_eq_self]
    intro e he
    simpa using hn e he
  rw [h1]; simp
/-- ForwardPacket's law: a table that is not the zero value is valid, the flow is found in it with the packet's host, and the next packet changes nothing. -/
theorem fwd_law (hs : List H3) (t : T3) (f : F5) (now : Int) : ((fwdT hs t f now).1.1 = 0 ∧ (fwdT hs t f now).2 = -1) ∨
    ((fwdT hs t f now).1.1 ≠ 0 ∧ tv (fwdT hs t f now).1.1 (fwdT hs t f now).1.2.1 (fwdT hs t f now).1.2.2 = true ∧ fwdT hs (fwdT hs t f now).1 f now = fwdT hs t f now ∧ findT (fwdT hs t f now).1 f = (fwdT hs t f now).2) := by
  obtain ⟨sz, st, es⟩ := t
  cases hb : fwdB hs (sz, st, es) f now
  · rw [fwd_no hb]; exact .inl ⟨rfl, rfl⟩
  simp only [fwdB, Bool.and_eq_true] at hb
  obtain ⟨⟨⟨hp, ht⟩, hf⟩, hw⟩ := hb
  have hT := tv_TV ht
  have hsz := (inB_true.1 hT.size).1
  have hle : ∀ e ∈ keepT st now es, e.2.2 ≤ now := fun e he => Int.le_trans (hT.last (keep_new he).1) (fit_now hw).2
  have hk : tv sz st (keepT st now es) = true := exp_valid ht
  right
  rcases fwd_yes (hs := hs) hp ht hf hw with ⟨hc, hv⟩ | ⟨h0, hB, hv⟩
  · have hd := drop_valid f hk
    have hn : findT (sz, st, (keepT st now es).filter (fun e => !decide (e.1 = f))) f = -1 := by
      refine find_no fun hm => ?_
      obtain ⟨e, he, hfe⟩ := List.mem_map.1 hm
      have := (List.mem_filter.1 he).2
      simp [hfe] at this
    have hr : chooseT hs (sz, st, keepT st now es) f = rendV hs (hashV f) := by
      rcases choose_cases (hs := hs) (f := f) hp hk hf with ⟨h1, _, h2⟩ | ⟨_, h2⟩
      · omega
      · exact h2
    have hka : keepT st now ((keepT st now es).filter (fun e => !decide (e.1 = f))) = (keepT st now es).filter (fun e => !decide (e.1 = f)) :=
      keepT_all fun e he => (keep_new (List.mem_filter.1 he).1).2
    rw [hv]
    refine ⟨by dsimp only; omega, hd, ?_, hn⟩
    have hw2 : fitB ((keepT st now es).filter (fun e => !decide (e.1 = f))) now = true := fitB_of (fit_now hw).1 (fun e he => hle e (List.mem_filter.1 he).1)
    rcases fwd_yes (hs := hs) hp hd hf hw2 with ⟨_, hv2⟩ | ⟨h0, _, _⟩
    · rw [hv2, hka]
      simp [List.filter_filter]
    · rw [hka, choose_none hp hd hf hn] at h0
      omega
  · rw [hv]
    have hd := tou_valid hB
    have hn := tou_found hB
    have hka : keepT st now (restT sz (keepT st now es) f ++ [(f, chooseT hs (sz, st, keepT st now es) f, now)]) = restT sz (keepT st now es) f ++ [(f, chooseT hs (sz, st, keepT st now es) f, now)] :=
      keepT_all fun e he => by
        rcases List.mem_append.1 he with he | he
        · exact (keep_new ((rest_sub _ _ _).subset he)).2
        · rw [List.mem_singleton.1 he]; exact old_now hT.stay _ _
    refine ⟨by dsimp only; omega, hd, ?_, hn⟩
    have hw2 : fitB (restT sz (keepT st now es) f ++ [(f, chooseT hs (sz, st, keepT st now es) f, now)]) now = true := fitB_of (fit_now hw).1 (fun e he => by
      rcases List.mem_append.1 he with he | he
      · exact hle e ((rest_sub _ _ _).subset he)
      · rw [List.mem_singleton.1 he]; exact Int.le_refl _)
    have hch := choose_sure hp hd hf h0 hn (choose_bd (hs := hs) hp hk hf).2
    rcases fwd_yes (hs := hs) hp hd hf hw2 with ⟨hc, _⟩ | ⟨_, _, hv2⟩
    · rw [hka, hch] at hc; omega
    · rw [hv2, hka, hch, rest_last rest_no]
theorem fwd_len {hs : List H3} {t : T3} {f : F5} {now : Int} : (fwdT hs t f now).1.2.2.length ≤ 12 := by
  rcases fwd_law hs t f now with ⟨h, _⟩ | ⟨_, h, _⟩
  · cases hb : fwdB hs t f now
    · rw [fwd_no hb]; simp
    · exfalso
      obtain ⟨sz, st, es⟩ := t
      simp only [fwdB, Bool.and_eq_true] at hb
      have hsz := (inB_true.1 (tv_TV hb.1.1.2).size).1
      rcases fwd_yes (hs := hs) hb.1.1.1 hb.1.1.2 hb.1.2 hb.2 with ⟨_, hv⟩ | ⟨_, _, hv⟩
      · rw [hv] at h; dsimp only at h hsz; omega
      · rw [hv] at h; dsimp only at h hsz; omega
  · have h1 := (tv_TV h).room
    have h2 := (inB_true.1 (tv_TV h).size).2
    omega
end Go.Proofs.Ytdkdfehlmphikaa
