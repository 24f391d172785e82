/- The draw of a pool, zones and a zone; samePool. No condition. -/
import Derived.Test.YtdpmlkigmadajaaDPool
import Derived.Test.YtdpmlkigmadajaaDZn
namespace Go.Proofs.Ytdpmlkigmadajaa
open Go.RowKit
/-- A pool, zones and a zone are drawn; nothing that was there has turned. -/
def RetZ (w : World) (e : Ending) (w' : World) : Prop :=
  ∃ (b c : Nat) (hs : List H3) (b2 c2 : Nat) (zs : List Int) (z : Int), e = .returned (.tuple #[.slice (some ⟨b, 0, none⟩) hs.length c, .slice (some ⟨b2, 0, none⟩) zs.length c2, .int .i64 z]) ∧ hs.length ≤ 7 ∧ zs.length ≤ 8 ∧ (∀ x ∈ zs, 0 ≤ x ∧ x ≤ 2) ∧ 0 ≤ z ∧ z ≤ 3 ∧
    Hosts w' (some ⟨b, 0, none⟩) hs ∧ Ints w' (some ⟨b2, 0, none⟩) zs ∧ Below w.heap.size w w'
set_option maxHeartbeats 1000000 in
theorem s_DrawZoneHosts (a : Option Addr) (len cap : Nat) (w : World) (hcl : len ≤ cap) (hcap : cap ≤ maxLen) (h : Code w.heap.size w a len) :
    Calls Try.prog 17 #[.slice a len cap] w (RetZ w) := by
  have HC := Lib.hid h
  clear h
  go_enter Try.func17, Try.ntmps17
  go_wp2_with fail
  refine (c_open (D := w.heap.size) a len cap _ hcl hcap (by simp) HC.out).mono ?_
  rintro e w1 ⟨g, rfl, hg, hr, hb⟩
  have HR := Lib.hid hr
  have HB := Lib.hid hb
  have hz := hb.size
  have hglt := hr.lt
  clear hr hb
  go_wp2_with fail
  refine (s_l20Pool g 0 9 _ HR.out (by omega) (by omega) (by omega)).mono ?_
  rintro e w2 ⟨b, c, hs, rfl, hl, ho, ⟨p2, hp2, hr2⟩, hg2⟩
  have HR2 := Lib.hid hr2
  have HG2 := Lib.hid hg2
  have HO2 := Lib.hid ho
  have z2 := hg2.size
  obtain ⟨hbl, _⟩ := ho.lt b rfl
  clear hr2 hg2 ho
  go_wp2_with fail
  refine (s_l20Zones g p2 hs.length _ HR2.out (by omega) (by omega)).mono ?_
  rintro e w3 ⟨b2, c2, zs, rfl, hl2, hx, ho2, ⟨p3, hp3, hr3⟩, hg3⟩
  have HR3 := Lib.hid hr3
  have HG3 := Lib.hid (grownBy_tr HG2.out hg3)
  have HO3 := Lib.hid (row_kept HO2.out hg3 (fun k hk => by simp [Value.ownBlock] at hk; simp; omega))
  have HX := Lib.hid hx
  have HP3 := Lib.hid ho2
  obtain ⟨hbl2, _⟩ := ho2.lt b2 rfl
  clear hr3 hg3 hx ho2
  go_wp2_with fail
  refine (c_pick g p3 4 _ HR3.out (by omega) (by omega) (by omega)).mono ?_
  rintro e w4 ⟨z, rfl, y0, y1, _, hr4, hg4⟩
  have y1 := y1 (by omega)
  have HG4 := Lib.hid (grownBy_tr HG3.out hg4)
  have HO4 := Lib.hid (row_kept HO3.out hg4 (fun k hk => by simp [Value.ownBlock] at hk; simp; omega))
  have HP4 := Lib.hid (row_kept HP3.out hg4 (fun k hk => by simp [Value.ownBlock] at hk; simp; omega))
  clear hr4 hg4
  go_wp2_with fail
  refine bodyPost_ret (v := .tuple #[.slice (some ⟨b, 0, none⟩) hs.length c, .slice (some ⟨b2, 0, none⟩) zs.length c2, .int .i64 z]) (by simp [results, Try.results17, go_sem]) rfl ?_
  exact ⟨b, c, hs, b2, c2, zs, z, rfl, hl, by omega, HX.out, y0, by omega, row_vals HO4.out, ownsRow.ints HP4.out, HB.out.trans (gb_below HG4.out (by omega) (by omega))⟩
theorem c_samePool (a b : Option Addr) (n ca cb : Nat) (hs : List H3) (w : World) (hxs : hs.length = n) (hn : n ≤ 1048576) (ha : Hosts w a hs) (hb : Hosts w b hs) :
    Calls Try.prog 19 #[.slice a n ca, .slice b n cb] w fun e w' => e = .returned (.bool true) ∧ Below w.heap.size w w' := by
  have HX := Lib.hid hxs
  have HA := Lib.hid ha
  have HB := Lib.hid hb
  clear hxs ha hb
  go_enter Try.func19, Try.ntmps19
  go_wp2
  go_loopw [5] (fun i wr => ∃ (k : Nat), k ≤ n ∧ i = .int .i64 k ∧ Below w.heap.size w wr) (fun i _ => n - (intOf i).toNat)
  case atStart => exact ⟨0, Nat.zero_le _, rfl, Below.refl _ _⟩
  case round =>
    obtain ⟨k, hk, rfl, hG⟩ := hrel
    have HG := Lib.hid hG
    clear hG
    by_cases hlt : k < n
    · obtain ⟨b1, off1, rfl, _, hc1⟩ := (HA.out.below HG.out).at HX.out hlt
      obtain ⟨b2, off2, rfl, _, hc2⟩ := (HB.out.below HG.out).at HX.out hlt
      obtain ⟨c0, c1, c2⟩ := hc1 k hlt
      obtain ⟨d0, d1, d2⟩ := hc2 k hlt
      clear hc1 hc2
      generalize (hs.getD k (0, 0, 0)).1 = N at *
      generalize (hs.getD k (0, 0, 0)).2.1 = W at *
      generalize (hs.getD k (0, 0, 0)).2.2 = S at *
      go_wp2
      go_quiet (fail)
      go_wp2
      go_roundw
      case rel => exact ⟨k + 1, by omega, by go_num, below_drewN HG.out _⟩
      case measure => simp [intOf]; omega
    · go_wp2
      go_ret
      exact ⟨rfl, HG.out⟩
end Go.Proofs.Ytdpmlkigmadajaa
