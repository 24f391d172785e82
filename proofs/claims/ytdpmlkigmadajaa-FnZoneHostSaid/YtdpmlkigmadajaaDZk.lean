/- The draw of a pool, zones, a zone and a key. No condition. -/
import Derived.Test.YtdpmlkigmadajaaDZo
import Derived.Test.YtdpmlkigmadajaaKey
namespace Go.Proofs.Ytdpmlkigmadajaa
open Go.RowKit
/-- A pool, zones, a zone and a key are drawn; nothing that was there has turned. -/
def RetZK (w : World) (e : Ending) (w' : World) : Prop :=
  ∃ (b c : Nat) (hs : List H3) (b2 c2 : Nat) (zs : List Int) (z key : Int), e = .returned (.tuple #[.slice (some ⟨b, 0, none⟩) hs.length c, .slice (some ⟨b2, 0, none⟩) zs.length c2, .int .i64 z, .int .i64 key]) ∧ hs.length ≤ 7 ∧ zs.length ≤ 8 ∧ (∀ x ∈ zs, 0 ≤ x ∧ x ≤ 2) ∧ 0 ≤ z ∧ z ≤ 3 ∧
    Hosts w' (some ⟨b, 0, none⟩) hs ∧ Ints w' (some ⟨b2, 0, none⟩) zs ∧ Below w.heap.size w w'
set_option maxHeartbeats 1000000 in
theorem s_DrawZoneHost (a : Option Addr) (len cap : Nat) (w : World) (hcl : len ≤ cap) (hcap : cap ≤ maxLen) (h : Code w.heap.size w a len) :
    Calls Try.prog 43 #[.slice a len cap] w (RetZK w) := by
  have HC := Lib.hid h
  clear h
  go_enter Try.func43, Try.ntmps43
  go_wp2_with fail
  refine (c_open (D := w.heap.size) a len cap _ hcl hcap (by simp) HC.out).mono ?_
  rintro e w1 ⟨g, rfl, hg, hr, hb⟩
  have HR := Lib.hid hr
  have HB := Lib.hid hb
  have hz := hb.size
  have hglt := hr.lt
  clear hr hb
  go_wp2_with fail
  refine (s_l20Pool g 0 9 _ HR.out (by omega) (by omega) (by omega)).mono ?_
  rintro e w2 ⟨b, c, hs, rfl, hl, ho, ⟨p2, hp2, hr2⟩, hg2⟩
  have HR2 := Lib.hid hr2
  have HG2 := Lib.hid hg2
  have HO2 := Lib.hid ho
  have z2 := hg2.size
  obtain ⟨hbl, _⟩ := ho.lt b rfl
  clear hr2 hg2 ho
  go_wp2_with fail
  refine (s_l20Zones g p2 hs.length _ HR2.out (by omega) (by omega)).mono ?_
  rintro e w3 ⟨b2, c2, zs, rfl, hl2, hx, ho2, ⟨p3, hp3, hr3⟩, hg3⟩
  have HR3 := Lib.hid hr3
  have HG3 := Lib.hid (grownBy_tr HG2.out hg3)
  have HO3 := Lib.hid (row_kept HO2.out hg3 (fun k hk => by simp [Value.ownBlock] at hk; simp; omega))
  have HX := Lib.hid hx
  have HP3 := Lib.hid ho2
  obtain ⟨hbl2, _⟩ := ho2.lt b2 rfl
  clear hr3 hg3 hx ho2
  go_wp2_with fail
  refine (c_pick g p3 4 _ HR3.out (by omega) (by omega) (by omega)).mono ?_
  rintro e w4 ⟨z, rfl, y0, y1, _, hr4, hg4⟩
  have y1 := y1 (by omega)
  have HG4 := Lib.hid (grownBy_tr HG3.out hg4)
  have HO4 := Lib.hid (row_kept HO3.out hg4 (fun k hk => by simp [Value.ownBlock] at hk; simp; omega))
  have HP4 := Lib.hid (row_kept HP3.out hg4 (fun k hk => by simp [Value.ownBlock] at hk; simp; omega))
  have HR4 := Lib.hid hr4
  clear hr4 hg4
  go_wp2_with fail
  refine (s_l20Key g (p3 + 1) 12 _ HR4.out (by omega) (by omega) (by omega)).mono ?_
  rintro e w5 ⟨key, rfl, -, -, -, hg5⟩
  have HG5 := Lib.hid (grownBy_tr HG4.out hg5)
  have HO5 := Lib.hid (row_kept HO4.out hg5 (fun k hk => by simp [Value.ownBlock] at hk; simp; omega))
  have HP5 := Lib.hid (row_kept HP4.out hg5 (fun k hk => by simp [Value.ownBlock] at hk; simp; omega))
  clear hg5
  go_wp2_with fail
  refine bodyPost_ret (v := .tuple #[.slice (some ⟨b, 0, none⟩) hs.length c, .slice (some ⟨b2, 0, none⟩) zs.length c2, .int .i64 z, .int .i64 key]) (by simp [results, Try.results43, go_sem]) rfl ?_
  exact ⟨b, c, hs, b2, c2, zs, z, key, rfl, hl, by omega, HX.out, y0, by omega, row_vals HO5.out, ownsRow.ints HP5.out, HB.out.trans (gb_below HG5.out (by omega) (by omega))⟩
end Go.Proofs.Ytdpmlkigmadajaa
