/- Contracts of hostAt and HostState. No condition but lists of at most 2^20 hosts. -/
import Derived.Test.YtdkdfehlmphikaaHAt
namespace Go.Proofs.Ytdkdfehlmphikaa
open Go.RowKit
theorem c_hostAt (a : Option Addr) (n cap : Nat) (hs : List H3) (num : Int) (w : World) (hxs : hs.length = n) (hn : n ≤ 1048576) (h : Hosts w a hs) :
    Calls Try.prog 105 #[.slice a n cap, .int .i64 num] w fun e w' => e = .returned (.int .i64 (ixOf hs num)) ∧ Below w.heap.size w w' := by
  have HX := Lib.hid hxs
  have HB : Hid (Below w.heap.size w (w.alloc (.cells #[.int .i64 num] 3))) := Lib.hid ((Below.refl _ _).alloc (Nat.le_refl _) _)
  have HI : Hid (Hosts (w.alloc (.cells #[.int .i64 num] 3)) a hs) := Lib.hid (h.below HB.out)
  have HC : Hid ((w.alloc (.cells #[.int .i64 num] 3)).cell? ⟨w.heap.size, 0, none⟩ = some (.int .i64 num)) := Lib.hid ((Box.new2 w 3 [_] _ rfl).cell 0)
  clear h hxs
  go_enter Try.func105, Try.ntmps105
  go_wp2_with fail
  refine (c_IndexHost a n cap hs num w.heap.size _ HX.out hn HI.out HC.out).mono ?_; rintro e w1 ⟨rfl, b1⟩
  go_wp2_with fail
  go_ret
  exact ⟨rfl, Below.step HB.out b1 HB.out.size⟩
theorem ixOf_bd (hs : List H3) (num : Int) : -1 ≤ ixOf hs num ∧ ixOf hs num < hs.length := by
  unfold ixOf
  split
  · rename_i j hj
    have := (List.findIdx?_eq_some_iff_getElem.1 hj).1
    omega
  · omega
/-- The state of a host. -/
def stV (hs : List H3) (num : Int) : Int := if pv hs && decide (0 ≤ ixOf hs num) then (hs.getD (ixOf hs num).toNat (0, 0, 0)).2.2 else 0
set_option maxHeartbeats 800000 in
theorem c_HostState (a : Option Addr) (n cap : Nat) (hs : List H3) (num : Int) (w : World) (hxs : hs.length = n) (hn : n ≤ 1048576) (h : Hosts w a hs) :
    Calls Try.prog 96 #[.slice a n cap, .int .i64 num] w fun e w' => e = .returned (.int .i64 (stV hs num)) ∧ Below w.heap.size w w' := by
  have HX := Lib.hid hxs
  have HI := Lib.hid h
  clear h hxs
  obtain ⟨i1, i2⟩ := ixOf_bd hs num
  rw [HX.out] at i2
  have HS : Hid (stV hs num = if pv hs && decide (0 ≤ ixOf hs num) then (hs.getD (ixOf hs num).toNat (0, 0, 0)).2.2 else 0) := Lib.hid rfl
  cases hp : pv hs
  · have HR : Hid (stV hs num = 0) := Lib.hid (by rw [HS.out, hp]; rfl)
    go_enter Try.func96, Try.ntmps96
    go_wp2_with fail
    refine (c_hostAt a n cap hs num _ HX.out hn HI.out).mono ?_; rintro e w1 ⟨rfl, b1⟩
    have B1 := Lib.hid b1
    have z1 := b1.size
    clear b1
    go_wp2_with fail
    refine (c_PoolValid a n cap hs _ HX.out hn (HI.out.below B1.out)).mono ?_; rintro e w2 ⟨rfl, b2⟩
    rw [hp]
    go_wp2_with fail
    go_ret
    exact ⟨ret_int HR.out.symm, Below.step B1.out b2 z1⟩
  by_cases h0 : ixOf hs num < 0
  · have HR : Hid (stV hs num = 0) := Lib.hid (by rw [HS.out, decide_eq_false (by omega), Bool.and_false]; rfl)
    go_enter Try.func96, Try.ntmps96
    go_wp2_with fail
    refine (c_hostAt a n cap hs num _ HX.out hn HI.out).mono ?_; rintro e w1 ⟨rfl, b1⟩
    have B1 := Lib.hid b1
    have z1 := b1.size
    clear b1
    go_wp2_with fail
    refine (c_PoolValid a n cap hs _ HX.out hn (HI.out.below B1.out)).mono ?_; rintro e w2 ⟨rfl, b2⟩
    rw [hp]
    go_wp2_with fail
    go_ret
    exact ⟨ret_int HR.out.symm, Below.step B1.out b2 z1⟩
  have h0' : 0 ≤ ixOf hs num := by omega
  have HR : Hid (stV hs num = (hs.getD (ixOf hs num).toNat (0, 0, 0)).2.2) := Lib.hid (by rw [HS.out, hp, decide_eq_true h0']; rfl)
  have hca := c_hostAt a n cap hs num w HX.out hn HI.out
  generalize ixOf hs num = at' at *
  obtain ⟨k, rfl⟩ := Int.eq_ofNat_of_zero_le h0'
  have hk : k < n := by omega
  rw [Int.toNat_natCast] at HR
  clear h0 h0' i1 i2
  go_enter Try.func96, Try.ntmps96
  go_wp2_with fail
  refine (hca.mono ?_); rintro e w1 ⟨rfl, b1⟩
  have B1 := Lib.hid b1
  have z1 := b1.size
  clear b1
  go_wp2_with fail
  refine (c_PoolValid a n cap hs _ HX.out hn (HI.out.below B1.out)).mono ?_; rintro e w2 ⟨rfl, b2⟩
  rw [hp]
  have B2 := Lib.hid (Below.step B1.out b2 z1)
  clear b2
  obtain ⟨b, off, rfl, hb, hc⟩ := (HI.out.below B2.out).at HX.out hk
  obtain ⟨c0, c1, c2⟩ := hc k hk
  clear hc hb
  generalize (hs.getD k (0, 0, 0)).2.2 = S at *
  go_wp2_with fail
  go_ret
  exact ⟨ret_int HR.out.symm, B2.out⟩
end Go.Proofs.Ytdkdfehlmphikaa
