/- Plain facts on the host that a key chooses, near hosts first. No program in sight but the seat's own name. -/
import Derived.Test.YtdpmlkigmadajaaZoneH
import Derived.Test.YtdpmlkigmadajaaZoneP
import Derived.Test.YtdpmlkigmadajaaHSt
import Derived.Test.YtdpmlkigmadajaaHUp
namespace Go.Proofs.Ytdpmlkigmadajaa
open Go.RowKit
theorem mixV_three {k N t : Int} (h : inB k 0 1000002 = true) (hN : inB N 0 1000002 = true) (ht : inB t 0 1000002 = true) : 0 ≤ mixV [k, N, t] := by
  have hk : keyOk [k, N, t] = true := by simp only [keyOk, List.all_cons, List.all_nil, h, hN, ht, Bool.and_self]
  rw [mixV, hk]
  exact (mixAll_bd [k, N, t] 3 (by simp)).1
theorem rTk_inv (key N : Int) (s : Int × Int) (hk : inB key 0 1000002 = true) (hN : inB N 0 30 = true) (hs : -1 ≤ s.2) : ∀ t : Nat, t ≤ 5 →
    -1 ≤ (rTk key N s t).2 ∧ (rTk key N s t = s ∨ (rTk key N s t).1 = N) ∧ (1 ≤ t → 0 ≤ (rTk key N s t).2) ∧ (0 ≤ s.2 → 0 ≤ (rTk key N s t).2)
  | 0, _ => ⟨hs, .inl rfl, fun h => by omega, fun h => h⟩
  | t + 1, ht => by
    obtain ⟨h1, h2, h3, h4⟩ := rTk_inv key N s hk hN hs t (by omega)
    have hN' := inB_true.1 hN
    have hm : 0 ≤ mixV [key, N, t] := mixV_three hk (inB_true.2 ⟨by omega, by omega⟩) (inB_true.2 ⟨by omega, by omega⟩)
    rw [rTk, rStep]
    split
    · exact ⟨by show -1 ≤ mixV _; omega, .inr rfl, fun _ => hm, fun _ => hm⟩
    · exact ⟨h1, h2, fun _ => by omega, h4⟩
theorem fold_inv (key : Int) (hk : inB key 0 1000002 = true) : ∀ (us : List H3) (s : Int × Int), (∀ h ∈ us, inB h.1 0 30 = true ∧ inB h.2.1 1 5 = true) → -1 ≤ s.2 →
    (us.foldl (rF key) s = s ∨ ∃ h ∈ us, (us.foldl (rF key) s).1 = h.1) ∧ (us ≠ [] → 0 ≤ (us.foldl (rF key) s).2) ∧ (0 ≤ s.2 → 0 ≤ (us.foldl (rF key) s).2)
  | [], s, _, _ => ⟨.inl rfl, fun h => absurd rfl h, fun h => h⟩
  | h :: us, s, hu, hs => by
    obtain ⟨g1, g2⟩ := hu h (List.mem_cons_self ..)
    have g2' := inB_true.1 g2
    obtain ⟨h1, h2, h3, h4⟩ := rTk_inv key h.1 s hk g1 hs h.2.1.toNat (by omega)
    obtain ⟨f1, f2, f3⟩ := fold_inv key hk us (rF key s h) (fun x hx => hu x (List.mem_cons_of_mem _ hx)) h1
    have h3' := h3 (by omega)
    rw [List.foldl_cons]
    refine ⟨?_, fun _ => f3 h3', fun _ => f3 h3'⟩
    rcases f1 with f1 | ⟨x, hx, f1⟩
    · rw [f1]
      rcases h2 with h2 | h2
      · exact .inl h2
      · exact .inr ⟨h, List.mem_cons_self .., h2⟩
    · exact .inr ⟨x, List.mem_cons_of_mem _ hx, f1⟩
theorem up_state {hs : List H3} {h : H3} : ∀ k, h ∈ upTo hs k → h.2.2 = 1
  | 0, hm => by simp [upTo] at hm
  | k + 1, hm => by
    rw [upTo, List.mem_append] at hm
    rcases hm with hm | hm
    · exact up_state k hm
    · split at hm
      · rename_i hz
        simp only [List.mem_cons, List.not_mem_nil, or_false] at hm
        rw [hm]; exact hz
      · cases hm
theorem up_good {hs : List H3} (hp : pv hs = true) {h : H3} (hm : h ∈ upV hs) : hGood h ∧ h.2.2 = 1 ∧ ∃ j, j < hs.length ∧ hs.getD j (0, 0, 0) = h := by
  obtain ⟨j, hj, e⟩ := upTo_mem _ (Nat.le_refl _) hm
  refine ⟨?_, up_state _ hm, j, hj, e⟩
  have := ((pv_iff hs).1 hp).1 hs[j] (List.getElem_mem hj)
  rw [← e, getD_eq hj]; exact this
theorem rend_none {hs : List H3} {key : Int} (hu : upV hs = []) : rendV hs key = -1 := by
  unfold rendV
  split
  · rw [rTo_all, hu]; rfl
  · rfl
theorem rend_some {hs : List H3} {key : Int} (hp : pv hs = true) (hk : inB key 0 1000002 = true) (hu : upV hs ≠ []) : ∃ h ∈ upV hs, rendV hs key = h.1 := by
  have hr : rendV hs key = ((upV hs).foldl (rF key) (-1, -1)).1 := by
    rw [rendV, hp, hk, rTo_all]; rfl
  obtain ⟨f1, f2, _⟩ := fold_inv key hk (upV hs) (-1, -1) (fun h hm => ⟨(up_good hp hm).1.1, (up_good hp hm).1.2.1⟩) (by decide)
  rcases f1 with f1 | ⟨h, hm, f1⟩
  · have := f2 hu
    rw [f1] at this
    exact absurd this (by decide)
  · exact ⟨h, hm, hr.trans f1⟩
theorem rend_bd (hs : List H3) (key : Int) : rendV hs key = -1 ∨ 0 ≤ rendV hs key := by
  cases hp : pv hs
  · exact .inl (by simp [rendV, hp])
  cases hk : inB key 0 1000002
  · exact .inl (by simp [rendV, hk])
  by_cases hu : upV hs = []
  · exact .inl (rend_none hu)
  · obtain ⟨h, hm, e⟩ := rend_some hp hk hu
    have := inB_true.1 (up_good hp hm).1.1
    right; omega
theorem st_up {hs : List H3} (hp : pv hs = true) {h : H3} (hm : h ∈ upV hs) : stV hs h.1 = 1 := by
  obtain ⟨_, hz, j, hj, e⟩ := up_good hp hm
  have hix : ixOf hs h.1 = j := by
    refine ixOf_hit hj (by rw [e]) fun i hi => ?_
    have := (List.pairwise_iff_getElem.1 ((pv_iff hs).1 hp).2.1) i j (by omega) hj hi
    rw [getD_eq (by omega : i < hs.length), ← e, getD_eq hj]
    omega
  rw [stV, hp, hix, decide_eq_true (by omega), Int.toNat_natCast, e]
  exact hz
theorem zh_bd (hs : List H3) (zs : List Int) (z key : Int) : zhV hs zs z key = -1 ∨ 0 ≤ zhV hs zs z key := by
  unfold zhV
  split
  · split
    · right; assumption
    · exact rend_bd _ _
  · exact .inl rfl
theorem zh_ok {hs : List H3} {zs : List Int} {z key : Int} (h : 0 ≤ zhV hs zs z key) : inB key 0 1000002 = true ∧ zhV hs zs z key = if 0 ≤ rendV (zoneV hs zs z) key then rendV (zoneV hs zs z) key else rendV hs key := by
  unfold zhV at h ⊢
  split at h
  · rename_i hc
    have hc' := hc
    simp only [Bool.and_eq_true, decide_eq_true_eq] at hc'
    exact ⟨hc'.2, if_pos hc⟩
  · exact absurd h (by decide)
theorem zh_near {hs : List H3} {zs : List Int} {z key : Int} (h : 0 ≤ zhV hs zs z key) (hu : upV (zoneV hs zs z) ≠ []) : stV (zoneV hs zs z) (zhV hs zs z key) = 1 := by
  obtain ⟨hk, e⟩ := zh_ok h
  obtain ⟨x, hm, e2⟩ := rend_some (pv_zone hs zs z) hk hu
  have := inB_true.1 (up_good (pv_zone hs zs z) hm).1.1
  rw [e, if_pos (by omega), e2]
  exact st_up (pv_zone hs zs z) hm
theorem zh_far {hs : List H3} {zs : List Int} {z key : Int} (h : 0 ≤ zhV hs zs z key) (hu : upV (zoneV hs zs z) = []) : zhV hs zs z key = rendV hs key := by
  obtain ⟨_, e⟩ := zh_ok h
  rw [e, rend_none hu, if_neg (by decide)]
theorem hu_len {hs : List H3} (hp : pv hs = true) : (huV hs).length = (upV hs).length := by
  rw [huV, if_pos hp, List.length_map]
end Go.Proofs.Ytdpmlkigmadajaa
