/- The draw of the law ForwardPacket. No condition. -/
import Derived.Test.YtdkdfehlmphikaaDFn
import Derived.Test.YtdkdfehlmphikaaDPool
namespace Go.Proofs.Ytdkdfehlmphikaa
open Go.RowKit
def hI (h : H3) : List Int := [h.1, h.2.1, h.2.2]
def hInts (hs : List H3) : List Int := hs.flatMap hI
theorem hInts_len (hs : List H3) : (hInts hs).length = hs.length * 3 := by
  induction hs with
  | nil => rfl
  | cons h r ih => simp only [hInts, List.flatMap_cons, List.length_append, List.length_cons] at *; rw [ih]; simp [hI]; omega
theorem hInts_cells (hs : List H3) : hcells hs = (hInts hs).map (Value.int .i64) := by
  induction hs with
  | nil => rfl
  | cons h r ih => simp only [hcells, hInts, List.flatMap_cons, List.map_append] at *; rw [ih]; rfl
theorem Vals.of_block {w w' : World} {a : Option Addr} {vs : List Value} (h : Vals w a vs) (hs : w.heap.size ≤ w'.heap.size) (hb : ∀ q, a = some q → w'.heap[q.block]? = w.heap[q.block]?) : Vals w' a vs := by
  rcases h with h | ⟨b', off, ha, hlt, hc⟩
  · exact .inl h
  · exact .inr ⟨b', off, ha, Nat.lt_of_lt_of_le hlt hs, fun i u hu => (World.cell?_of_block (a := ⟨b', off + i, none⟩) (hb ⟨b', off, none⟩ ha)).trans (hc i u hu)⟩
theorem Hosts.of_block {w w' : World} {a : Option Addr} {hs : List H3} (h : Hosts w a hs) (hs' : w.heap.size ≤ w'.heap.size) (hb : ∀ q, a = some q → w'.heap[q.block]? = w.heap[q.block]?) : Hosts w' a hs := Vals.of_block h hs' hb
theorem Hosts.ints {w : World} {a : Option Addr} {hs : List H3} (h : Hosts w a hs) : Ints w a (hInts hs) := by
  have h' : Vals w a (hcells hs) := h
  rw [hInts_cells] at h'
  exact h'.ints
/-- A pool, a table, a flow and a time are drawn; nothing that was there has turned. -/
def RetDFw (w : World) (e : Ending) (w' : World) : Prop :=
  ∃ (p : Addr) (pc : Nat) (hs : List H3) (N R : Int) (a : Option Addr) (cap : Nat) (es : List E7) (f : F5) (now : Int), e = .returned (.tuple #[.slice (some p) hs.length pc, .agg #[.int .i64 N, .int .i64 R, .slice a es.length cap], fvv f, .int .i64 now]) ∧ hs.length ≤ 7 ∧ es.length ≤ 8 ∧ es.length ≤ cap ∧ (a = none → es.length = 0 ∧ cap = 0) ∧ Hosts w' (some p) hs ∧ Ents w' a es ∧ Below w.heap.size w w'
def XG6 (b off n cap b5 : Nat) : List (Tmp × VP) :=
  [(28, fun v _ => v = .pointer (some ⟨b5, 2, none⟩)), (29, fun v _ => v = .slice (some ⟨b, off, none⟩) n cap), (31, fun v _ => v = .pointer (some ⟨b5, 2, none⟩)), (32, fun v _ => v = .slice (some ⟨b, off, none⟩) n cap), (33, fun v _ => v = .int .i64 n),
   (34, fun v _ => ∃ j : Nat, v = .int .i64 j ∧ j < n), (35, fun v _ => ∃ j : Nat, v = .pointer (some ⟨b, off + j * 7, none⟩) ∧ j < n), (36, fun v _ => ∃ j : Nat, v = .pointer (some ⟨b, off + j * 7, none⟩) ∧ j < n), (37, fun v _ => ∃ f : F5, v = fvv f)]
theorem XG6.stable {b off n cap b5 : Nat} {G : World → World → Prop} : ∀ q ∈ XG6 b off n cap b5, ∀ v w w', q.2 v w → G w w' → q.2 v w' := by
  intro q hq v w w' h hg
  simp only [XG6, List.mem_cons, List.not_mem_nil, or_false] at hq
  rcases hq with rfl | rfl | rfl | rfl | rfl | rfl | rfl | rfl | rfl <;> exact h
theorem XG6.nd {b off n cap b5 : Nat} : ((XG6 b off n cap b5).map (·.1)).Nodup := by
  show ([28, 29, 31, 32, 33, 34, 35, 36, 37] : List Nat).Nodup
  decide
set_option maxHeartbeats 8000000 in
set_option maxRecDepth 100000 in
theorem s_DrawForwardPacket (a : Option Addr) (len cap : Nat) (w : World) (hcl : len ≤ cap) (hcap : cap ≤ maxLen) (h : Code w.heap.size w a len) :
    Calls Try.prog 52 #[.slice a len cap] w (RetDFw w) := by
  have HC := Lib.hid h
  clear h
  go_enter Try.func52, Try.ntmps52
  go_wp2_with fail
  refine (c_open (D := w.heap.size) a len cap _ hcl hcap (by simp only [World.size_alloc]; omega) (HC.out.below (((Below.refl _ _).alloc (Nat.le_refl _) _).alloc (by simp) _))).mono ?_
  rintro e w0 ⟨g, rfl, hg, hr, hb⟩
  simp only [World.size_alloc] at hg
  have HR0 := Lib.hid hr
  have hz0 := hb.size
  simp only [World.size_alloc] at hz0
  have q0 : Below w.heap.size w w0 := (((Below.refl _ _).alloc (Nat.le_refl _) _).alloc (by simp) _).trans (hb.mono (by simp only [World.size_alloc]; omega))
  have B0 : Box w0 w.heap.size 30 [.int .i64 0, .int .i64 0, .slice none 0 0] := ((Box.new w 30 [.int .i64 0, .int .i64 0, .slice none 0 0]).alloc _).keep hb
  have B0' : Box w0 (w.heap.size + 1) 37 [.int .i64 0, .int .i64 0, .int .i64 0, .int .i64 0, .int .i64 0] := (Box.new2 (w.alloc _) 37 [.int .i64 0, .int .i64 0, .int .i64 0, .int .i64 0, .int .i64 0] (w.heap.size + 1) (by simp only [World.size_alloc])).keep hb
  have hgl0 := hr.lt
  clear hr hb
  go_wp2_with fail
  refine (s_l20Pool g 0 14 _ HR0.out (by omega) (by omega) (by omega)).mono ?_
  rintro e w1 ⟨b0, pc, hs, rfl, hh7, ho1, ⟨p1, hp1, hr1⟩, hg1⟩
  have hz := hg1.size
  have hbl := ho1.lt b0 rfl
  have hbh : Hid (b0 ≠ g ∧ b0 ≠ w.heap.size ∧ b0 ≠ w.heap.size + 1 ∧ b0 < w1.heap.size ∧ w.heap.size ≤ b0) := Lib.hid (by
    refine ⟨by omega, by omega, by omega, by omega, by omega⟩)
  have q1 := q0.trans (gb_below hg1 (by omega) (by omega))
  have B1 := B0.by hg1 (by omega)
  have B1' := B0'.by hg1 (by omega)
  have HH1 : Hosts w1 (some ⟨b0, 0, none⟩) hs := row_vals ho1
  have HR := Lib.hid hr1
  clear q0 B0 B0' hg1 hr1 ho1 HR0
  go_wp2_with fail
  refine (s_l20Table g p1 (some ⟨b0, 0, none⟩) hs.length pc (hInts hs) 14 _ HR.out (by omega) (by omega) (by omega) (hInts_len hs) (by omega) HH1.ints (fun q hq => by injection hq with hq; subst hq; exact hbh.out.1)).mono ?_
  rintro e w2 ⟨N, R, b, c2, es, rfl, hx, ho2, ⟨p2, hp2, hr2⟩, hg2⟩
  have hglt := HR.out.lt
  have hgl2 := hr2.lt
  have z2 := hg2.size
  have hbA : Below w2.heap.size w2 (w2.alloc (.cells #[.int .i64 N, .int .i64 R, .slice b es.length c2] 30)) := (Below.refl _ _).alloc (Nat.le_refl _) _
  go_wp2_with fail
  refine (s_l20Flow g p2 14 _ (hr2.keep (below_grown hbA)) (by omega) (by omega) (by omega)).mono ?_
  rintro e w3 ⟨f0, f1, f2, f3, f4, rfl, ⟨p5, hp5, hr3⟩, hg3⟩
  have z3 := hg3.size
  simp only [World.size_alloc] at z3
  have hgl3 := hr3.lt
  have HT3 : Box w3 w2.heap.size 30 [.int .i64 N, .int .i64 R, .slice b es.length c2] := (Box.new w2 30 [.int .i64 N, .int .i64 R, .slice b es.length c2]).by hg3 (by omega)
  have B3 := ((B1.by hg2 (by omega)).keep hbA).by hg3 (by omega)
  have B3' := ((B1'.by hg2 (by omega)).keep hbA).by hg3 (by omega)
  have q3 := ((q1.trans (gb_below hg2 (by omega) (by omega))).trans (hbA.mono (by omega))).trans (gb_below hg3 (by simp only [World.size_alloc]; omega) (by omega))
  have hcp := (row_cap ho2).1
  have hnn := Lib.hid (own_none ho2)
  have hbk : Hid (∀ q, b = some q → q.block ≠ g ∧ q.block ≠ w.heap.size ∧ q.block ≠ w.heap.size + 1 ∧ q.block < w2.heap.size ∧ w.heap.size ≤ q.block) := Lib.hid (fun q hq => by
    have hlt := ho2.lt q.block (by rw [hq]; rfl)
    refine ⟨by omega, by omega, by omega, by omega, by omega⟩)
  have HI3 : Ents w3 b es := ((EntRow.ents ho2).below hbA).of_block hg3.size (fun q hq => hg3.block q.block (by have := (hbk.out q hq).2.2.2.1; simp only [World.size_alloc]; omega) (fun e => (hbk.out q hq).1 (by simpa using e)))
  have HH2 : Hosts w2 (some ⟨b0, 0, none⟩) hs := HH1.of_block hg2.size (fun q hq => by injection hq with hq; subst hq; exact hg2.block b0 hbh.out.2.2.2.1 (fun e => hbh.out.1 (by simpa using e)))
  have HH3 : Hosts w3 (some ⟨b0, 0, none⟩) hs := (HH2.below hbA).of_block hg3.size (fun q hq => by injection hq with hq; subst hq; exact hg3.block b0 (by have := hbh.out.2.2.2.1; simp only [World.size_alloc]; omega) (fun e => hbh.out.1 (by simpa using e)))
  obtain ⟨w4, hw4, hb4, hz4, hx4⟩ : ∃ W, W = w3.alloc (.cells #[.int .i64 f0, .int .i64 f1, .int .i64 f2, .int .i64 f3, .int .i64 f4] 37) ∧ Below w3.heap.size w3 W ∧ W.heap.size = w3.heap.size + 1 ∧ Box W w3.heap.size 37 [.int .i64 f0, .int .i64 f1, .int .i64 f2, .int .i64 f3, .int .i64 f4] := head1 w3 37 _
  have HW4 := Lib.hid hw4
  have HF4 := Lib.hid hx4
  have B4 := Lib.hid (B3.keep hb4)
  have B4' := Lib.hid (B3'.keep hb4)
  have HT4 := Lib.hid (HT3.keep hb4)
  have HI4 := Lib.hid (HI3.below hb4)
  have HH4 := Lib.hid (HH3.below hb4)
  have q4 := Lib.hid (q3.trans (hb4.mono (by omega)))
  have HR4 := Lib.hid (hr3.keep (below_grown hb4))
  clear q1 B1 B1' hg2 hr2 hr3 hg3 hbA HT3 B3 B3' q3 HI3 HH1 HH2 HH3 hw4 hb4 hx4 ho2 HR
  obtain ⟨n, hn⟩ : ∃ n, es.length = n := ⟨_, rfl⟩
  obtain ⟨pn, hpn⟩ : ∃ pn, hs.length = pn := ⟨_, rfl⟩
  have hret : Hid (∀ (f : F5) (nw : Int) (w' : World), Ents w' b es → Hosts w' (some ⟨b0, 0, none⟩) hs → Below w.heap.size w w' → RetDFw w (.returned (.tuple #[.slice (some ⟨b0, 0, none⟩) pn pc, .agg #[.int .i64 N, .int .i64 R, .slice b n c2], fvv f, .int .i64 nw])) w') := Lib.hid (fun f nw w' h1 h3 h2 => by
    rw [← hn, ← hpn]
    exact ⟨⟨b0, 0, none⟩, pc, hs, N, R, b, c2, es, f, nw, rfl, hh7, hx, hcp, hnn.out, h3, h1, h2⟩)
  have hcp' : n ≤ c2 := hn ▸ hcp
  rw [hn] at HT4 ⊢
  rw [hpn]
  have HN := Lib.hid hn
  have HPN := Lib.hid hpn
  clear hn hpn
  have hn8 : n ≤ 8 := by have := HN.out; omega
  go_upto_region 5 with fail
  rw [← HW4.out]
  obtain ⟨t0, t1, t2, tf⟩ := HT4.out.three
  by_cases h0 : n = 0
  · subst h0
    go_upto_region 7 with fail
    clear t0 t1 t2 tf
    have HG9 : RelOk (w.heap.size + 2) g w4 (GrM g [(w.heap.size, 30, [.int .i64 N, .int .i64 R, .slice b 0 c2]), (w.heap.size + 1, 37, [.int .i64 f0, .int .i64 f1, .int .i64 f2, .int .i64 f3, .int .i64 f4])]) := GrM.ok (fun q hq => by
          rcases List.mem_cons.1 hq with h | h
          · rw [h]; exact ⟨by show w.heap.size < _; omega, B4.out.lt⟩
          · rw [List.mem_singleton.1 h]; exact ⟨by show w.heap.size + 1 < _; omega, B4'.out.lt⟩) (by omega)
    refine region_checked_G (D := w.heap.size + 2) (D0 := w.heap.size) _ 0 false 22 57 g p5 1 (GrM g [(w.heap.size, 30, [.int .i64 N, .int .i64 R, .slice b 0 c2]), (w.heap.size + 1, 37, [.int .i64 f0, .int .i64 f1, .int .i64 f2, .int .i64 f3, .int .i64 f4])]) (FM [(20, (w.heap.size, 30, [.int .i64 N, .int .i64 R, .slice b 0 c2])), (21, (w.heap.size + 1, 37, [.int .i64 f0, .int .i64 f1, .int .i64 f2, .int .i64 f3, .int .i64 f4]))]) [(6, .rd)] [(6, .rd), (38, .any), (39, .any), (40, .any), (41, .rd), (42, .int 0 19), (43, .int 60 79), (44, .rd), (45, .int 0 255), (46, .int 60 315), (47, .rd), (48, .int 0 59), (49, .sl [(60, 79), (60, 315), (0, 59), (100001, 100001)]), (50, .sl [(0, 0), (0, 0), (1, 1), (1, 1), (2, 2), (2, 2), (3, 3)]), (51, .rd), (52, .int 0 6), (53, .pt 0 3), (54, .int 0 3), (55, .pt 0 100001), (56, .int 0 100001), (2, .any)]
      [38, 39, 40, 41, 42, 43, 44, 45, 46, 47, 48, 49, 50, 51, 52, 53, 54, 55, 56, 2] [] [(38, fun v _ => v = .slice (some ⟨b0, 0, none⟩) pn pc), (39, fun v _ => v = .agg #[.int .i64 N, .int .i64 R, .slice b 0 c2]), (40, fun v _ => v = .agg #[.int .i64 f0, .int .i64 f1, .int .i64 f2, .int .i64 f3, .int .i64 f4]), (2, fun v _ => v = .slice (some ⟨b0, 0, none⟩) pn pc)] [38, 39, 40, 2] [0, 1, 2, 19, 20, 21] rfl (by kernel_rfl) rfl ?_ (fun h => by cases h) ?_ HR4.out (by omega) (by omega) HG9 (FM.stable (fun x hx => by
          rcases List.mem_cons.1 hx with h | h
          · rw [h]; exact List.mem_cons_self
          · rw [List.mem_singleton.1 h]; exact List.mem_cons_of_mem _ List.mem_cons_self)) (by omega) ?_ ?_
    · intro q hq v w9 w9' h _
      simp only [List.mem_cons, List.not_mem_nil, or_false] at hq
      rcases hq with rfl | rfl | rfl | rfl <;> exact h
    · intro q hq
      rw [List.mem_singleton.1 hq]
      rfl
    · intro i hi o hin ho k a' W' hk hdef hfrm hdep hgr hW
      have hnd : (([(38, fun v _ => v = .slice (some ⟨b0, 0, none⟩) pn pc), (39, fun v _ => v = .agg #[.int .i64 N, .int .i64 R, .slice b 0 c2]), (40, fun v _ => v = .agg #[.int .i64 f0, .int .i64 f1, .int .i64 f2, .int .i64 f3, .int .i64 f4]), (2, fun v _ => v = .slice (some ⟨b0, 0, none⟩) pn pc)] : List (Tmp × VP)).map (·.1)).Nodup := by show ([38, 39, 40, 2] : List Nat).Nodup; decide
      have hT' : Box W' w2.heap.size 30 [.int .i64 N, .int .i64 R, .slice b 0 c2] := hgr.box HT4.out (by omega) (fun q hq => by
          rcases List.mem_cons.1 hq with h | h
          · rw [h]; exact (by show w2.heap.size ≠ w.heap.size; omega)
          · rw [List.mem_singleton.1 h]; exact (by show w2.heap.size ≠ w.heap.size + 1; omega))
      have hF' : Box W' w3.heap.size 37 [.int .i64 f0, .int .i64 f1, .int .i64 f2, .int .i64 f3, .int .i64 f4] := hgr.box HF4.out (by omega) (fun q hq => by
          rcases List.mem_cons.1 hq with h | h
          · rw [h]; exact (by show w3.heap.size ≠ w.heap.size; omega)
          · rw [List.mem_singleton.1 h]; exact (by show w3.heap.size ≠ w.heap.size + 1; omega))
      have e7 : a'.tmps.getD 7 undef = .slice (some ⟨b0, 0, none⟩) pn pc := (hfrm 7 (by kernel_rfl)).trans rfl
      have e8 : a'.tmps.getD 8 undef = .pointer (some ⟨w2.heap.size, 0, none⟩) := (hfrm 8 (by kernel_rfl)).trans rfl
      have e9 : a'.tmps.getD 9 undef = .pointer (some ⟨w3.heap.size, 0, none⟩) := (hfrm 9 (by kernel_rfl)).trans rfl
      have e3 : a'.tmps.getD 3 undef = .pointer (some ⟨w.heap.size, 0, none⟩) := (hfrm 3 (by kernel_rfl)).trans rfl
      have e4 : a'.tmps.getD 4 undef = .pointer (some ⟨w.heap.size + 1, 0, none⟩) := (hfrm 4 (by kernel_rfl)).trans rfl
      have hlt9 : ∀ x ∈ ([(w.heap.size, 30, [.int .i64 N, .int .i64 R, .slice b 0 c2]), (w.heap.size + 1, 37, [.int .i64 f0, .int .i64 f1, .int .i64 f2, .int .i64 f3, .int .i64 f4])] : List MB), x.1 < W'.heap.size := (fun x hx => by
          rcases List.mem_cons.1 hx with h | h
          · rw [h]; exact (by show w.heap.size < _; have := hgr.size; omega)
          · rw [List.mem_singleton.1 h]; exact (by show w.heap.size + 1 < _; have := hgr.size; omega))
      simp only [List.mem_cons, List.not_mem_nil, or_false] at hi
      rcases hi with rfl | rfl | rfl | rfl | rfl | rfl
      all_goals
        injection ho with ho
        subst ho
      · exact hand_val hnd (fun w => GrM.rfl' w) hW rfl rfl rfl ((run_mv _ _ _ (.tmp 7) _ e7).1 rfl) rfl
      · exact hand_val hnd (fun w => GrM.rfl' w) hW rfl rfl rfl (run_ldTi _ _ _ (.tmp 8) w2.heap.size _ _ _ rfl e8 hT') rfl
      · exact hand_val hnd (fun w => GrM.rfl' w) hW rfl rfl rfl (run_ldFi _ _ _ (.tmp 9) w3.heap.size _ _ _ _ _ rfl e9 hF') rfl
      · have e38 : a'.tmps.getD 38 undef = _ := XHas.at (hdep 38 (by kernel_rfl)).2.2
        exact hand_val hnd (fun w => GrM.rfl' w) hW rfl rfl rfl ((run_mv _ _ _ (.tmp 38) _ e38).2 rfl) rfl
      · have e39 : a'.tmps.getD 39 undef = _ := XHas.at (hdep 39 (by kernel_rfl)).2.2
        obtain ⟨us, hus, hul⟩ := hgr.len (q := (w.heap.size, 30, [.int .i64 N, .int .i64 R, .slice b 0 c2])) List.mem_cons_self B4.out rfl
        exact hand_table (q := (w.heap.size, 30, [.int .i64 N, .int .i64 R, .slice b 0 c2])) List.mem_cons_self (fun x hx => by
          rcases List.mem_cons.1 hx with h | h
          · rw [h]; exact (fun _ => rfl)
          · rw [List.mem_singleton.1 h]; exact (fun h9 => absurd h9 (by show ¬ w.heap.size + 1 = w.heap.size; omega))) (fun x hx => by
          rcases List.mem_cons.1 hx with h | h
          · rw [h]; exact (fun _ => rfl)
          · rw [List.mem_singleton.1 h]; exact (fun h9 => absurd h9 (by show ¬ (21 : Nat) = 20; decide))) hW (Nat.le_refl _) (by show w.heap.size ≠ g; omega) rfl rfl e3 e39 rfl hus hul hlt9
      · have e40 : a'.tmps.getD 40 undef = fvv (f0, f1, f2, f3, f4) := XHas.at (hdep 40 (by kernel_rfl)).2.2
        obtain ⟨us, hus, hul⟩ := hgr.len (q := (w.heap.size + 1, 37, [.int .i64 f0, .int .i64 f1, .int .i64 f2, .int .i64 f3, .int .i64 f4])) (List.mem_cons_of_mem _ List.mem_cons_self) B4'.out rfl
        exact hand_flow (q := (w.heap.size + 1, 37, [.int .i64 f0, .int .i64 f1, .int .i64 f2, .int .i64 f3, .int .i64 f4])) (List.mem_cons_of_mem _ List.mem_cons_self) (fun x hx => by
          rcases List.mem_cons.1 hx with h | h
          · rw [h]; exact (fun h9 => absurd h9 (by show ¬ w.heap.size = w.heap.size + 1; omega))
          · rw [List.mem_singleton.1 h]; exact (fun _ => rfl)) (fun x hx => by
          rcases List.mem_cons.1 hx with h | h
          · rw [h]; exact (fun h9 => absurd h9 (by show ¬ (20 : Nat) = 21; decide))
          · rw [List.mem_singleton.1 h]; exact (fun _ => rfl)) hW (by show w.heap.size ≤ w.heap.size + 1; omega) (by show w.heap.size + 1 ≠ g; omega) rfl rfl e4 e40 rfl hus hul hlt9
    · intro f w9 hf hgr hst hrd
      obtain ⟨nw, e56, n1, n2⟩ := (hf 56 (by decide)).1
      have e56' : f 56 = .int .i64 nw := e56
      have e2' : f 2 = .slice (some ⟨b0, 0, none⟩) pn pc := XHas.at (hf 2 (by decide)).2.2
      have hBc : Box w9 w.heap.size 30 [.int .i64 N, .int .i64 R, .slice b 0 c2] := hst 20 _ (by decide) rfl rfl _ List.mem_cons_self rfl
      have hBf : Box w9 (w.heap.size + 1) 37 [.int .i64 f0, .int .i64 f1, .int .i64 f2, .int .i64 f3, .int .i64 f4] := hst 21 _ (by decide) rfl rfl _ (List.mem_cons_of_mem _ List.mem_cons_self) rfl
      have q9 := Lib.hid (q4.out.trans (hgr.below (L := w.heap.size) (by omega) (by omega) (fun q hq => by
          rcases List.mem_cons.1 hq with h | h
          · rw [h]; exact (Nat.le_refl _)
          · rw [List.mem_singleton.1 h]; exact (by show w.heap.size ≤ w.heap.size + 1; omega))))
      have HI9 := Lib.hid (HI4.out.of_block hgr.size (fun q hq => hgr.block q.block (by have := (hbk.out q hq).2.2.2.1; omega) (hbk.out q hq).1 (fun x hx => by
          rcases List.mem_cons.1 hx with h | h
          · rw [h]; exact (hbk.out q hq).2.1
          · rw [List.mem_singleton.1 h]; exact (hbk.out q hq).2.2.1)))
      have HH9 := Lib.hid (HH4.out.of_block hgr.size (fun q hq => by injection hq with hq; subst hq; exact hgr.block b0 (by have := hbh.out.2.2.2.1; omega) hbh.out.1 (fun x hx => by
          rcases List.mem_cons.1 hx with h | h
          · rw [h]; exact hbh.out.2.1
          · rw [List.mem_singleton.1 h]; exact hbh.out.2.2.1)))
      obtain ⟨y0, y1, y2, fy⟩ := hBc.three
      obtain ⟨v0, v1, v2, v3, v4, fv9⟩ := hBf.five
      simp only [List.drop_succ_cons, List.drop_zero, putL, Act.put, List.setIfInBounds_toArray, List.set_cons_succ, List.set_cons_zero, e2', e56']
      clear hf hgr hst hrd e56 e56' e2' hBc hBf
      go_wp2
      refine bodyPost_ret (v := .tuple #[.slice (some ⟨b0, 0, none⟩) pn pc, .agg #[.int .i64 N, .int .i64 R, .slice b 0 c2], .agg #[.int .i64 f0, .int .i64 f1, .int .i64 f2, .int .i64 f3, .int .i64 f4], .int .i64 nw]) (by simp [results, Try.results52, go_sem, y0, y1, y2, v0, v1, v2, v3, v4]) rfl ?_
      exact hret.out (f0, f1, f2, f3, f4) nw _ HI9.out HH9.out q9.out
  · have hn0 : decide ((0 : Int) < (n : Int)) = true := decide_eq_true (by omega)
    have hn1 : (0 : Int) < (n : Int) := by omega
    go_wp2_with fail
    clear t0 t1 t2 tf
    refine (c_pick g p5 2 _ HR4.out (by omega) (by omega) (by omega)).mono ?_
    rintro e w6 ⟨x, rfl, y1, y2, _, hr4, hg4⟩
    have y3 := y2 (by omega)
    have HR6 := Lib.hid hr4
    have B6 := Lib.hid (B4.out.by hg4 (by omega))
    have B6' := Lib.hid (B4'.out.by hg4 (by omega))
    have HT6 := Lib.hid (HT4.out.by hg4 (by omega))
    have HF6 := Lib.hid (HF4.out.by hg4 (by omega))
    have HI6 := Lib.hid (HI4.out.of_block hg4.size (fun q hq => hg4.block q.block (by have := (hbk.out q hq).2.2.2.1; omega) (fun e => (hbk.out q hq).1 (by simpa using e))))
    have HH6 := Lib.hid (HH4.out.of_block hg4.size (fun q hq => by injection hq with hq; subst hq; exact hg4.block b0 (by have := hbh.out.2.2.2.1; omega) (fun e => hbh.out.1 (by simpa using e))))
    have q6 := Lib.hid (q4.out.trans (gb_below hg4 (by omega) (by omega)))
    have z6 := hg4.size
    clear hr4 hg4 y2 HR4 B4 B4' HT4 HF4 HI4 HH4 q4 HW4
    have hx2 : x = 0 ∨ x = 1 := by omega
    clear y1 y3
    rcases hx2 with rfl | rfl
    · obtain ⟨bb, off, rfl, hbl, hE⟩ := HI6.out.at HN.out (k := 0) (by omega)
      have hbb := hbk.out _ rfl
      go_upto_region 6 with fail
      have HG9 : RelOk (w.heap.size + 2) g w6 (GrM g []) := GrM.ok (fun q hq => by cases hq) (by omega)
      refine region_checked_G (D := w.heap.size + 2) (D0 := w.heap.size) _ 0 false 10 57 g (p5 + 1) 1 (GrM g []) (FM []) [(6, .rd)] [(6, .rd), (28, .any), (29, .any), (30, .rd), (31, .any), (32, .any), (33, .any), (34, .any), (35, .any), (36, .any), (37, .any)] [28, 29, 30, 31, 32, 33, 34, 35, 36, 37] [] (XG6 bb off n c2 w2.heap.size) [28, 29, 31, 32, 33, 34, 35, 36, 37] [0, 1, 3, 4, 5, 6, 7, 8, 9] rfl (by kernel_rfl) rfl XG6.stable (fun h => by cases h) ?_ HR6.out (by omega) (by omega) HG9 (FM.stable (fun x hx => by cases hx)) (by omega) ?_ ?_
      · intro q hq
        rw [List.mem_singleton.1 hq]
        rfl
      · intro i hi o hin ho k a' W' hk hdef hfrm hdep hgr hW
        have hT' : Box W' w2.heap.size 30 [.int .i64 N, .int .i64 R, .slice (some ⟨bb, off, none⟩) n c2] := hgr.box HT6.out (by omega) (fun q hq => by cases hq)
        have e8 : a'.tmps.getD 8 undef = .pointer (some ⟨w2.heap.size, 0, none⟩) := (hfrm 8 (by kernel_rfl)).trans rfl
        simp only [List.mem_cons, List.not_mem_nil, or_false] at hi
        rcases hi with rfl | rfl | rfl | rfl | rfl | rfl | rfl | rfl | rfl
        all_goals
          injection ho with ho
          subst ho
        · exact hand_val XG6.nd (fun w => GrM.rfl' w) hW rfl rfl rfl (run_fldT _ _ _ (.tmp 8) _ rfl e8) rfl
        · have e28 : a'.tmps.getD 28 undef = .pointer (some ⟨w2.heap.size, 2, none⟩) := XHas.at (hdep 28 (by kernel_rfl)).2.2
          exact hand_val XG6.nd (fun w => GrM.rfl' w) hW rfl rfl rfl (run_ldS _ _ _ (.tmp 28) _ _ _ rfl e28 (hT'.cell 2)) rfl
        · exact hand_val XG6.nd (fun w => GrM.rfl' w) hW rfl rfl rfl (run_fldT _ _ _ (.tmp 8) _ rfl e8) rfl
        · have e31 : a'.tmps.getD 31 undef = .pointer (some ⟨w2.heap.size, 2, none⟩) := XHas.at (hdep 31 (by kernel_rfl)).2.2
          exact hand_val XG6.nd (fun w => GrM.rfl' w) hW rfl rfl rfl (run_ldS _ _ _ (.tmp 31) _ _ _ rfl e31 (hT'.cell 2)) rfl
        · have e32 : a'.tmps.getD 32 undef = .slice (some ⟨bb, off, none⟩) n c2 := XHas.at (hdep 32 (by kernel_rfl)).2.2
          exact hand_val XG6.nd (fun w => GrM.rfl' w) hW rfl rfl rfl (run_lenE _ _ _ (.tmp 32) _ n _ rfl e32) rfl
        · obtain ⟨q9, hq9, hr9⟩ := hW
          have e30 : a'.tmps.getD 30 undef = .pointer (some ⟨g, 0, none⟩) := (hdep 30 (by kernel_rfl)).1
          have e33 : a'.tmps.getD 33 undef = .int .i64 n := XHas.at (hdep 33 (by kernel_rfl)).2.2
          have hv9 : (#[Operand.tmp 30, Operand.tmp 33] : Array Operand).map a'.eval = #[.pointer (some ⟨g, 0, none⟩), .int .i64 n] := by simp only [List.map_toArray, List.map_cons, List.map_nil, Act.eval, e30, e33]
          refine hand_call XG6.nd (fun w' h => HG9.of _ _ hgr h) rfl rfl rfl (run_callL _ _ _ 55 _ _ _ rfl rfl hv9 (enters_of Try.func55 (by kernel_rfl) rfl)) ?_
          refine (c_pick g q9 n W' hr9 (by omega) (by omega) (by omega)).mono ?_
          rintro e w5 ⟨x, rfl, y1, y2, _, hr5, g5⟩
          obtain ⟨j, rfl⟩ := Int.eq_ofNat_of_zero_le y1
          exact ⟨_, rfl, ⟨j, rfl, by have := y2 (by omega); omega⟩, g5, q9 + 1, by omega, hr5⟩
        · have e29 : a'.tmps.getD 29 undef = .slice (some ⟨bb, off, none⟩) n c2 := XHas.at (hdep 29 (by kernel_rfl)).2.2
          obtain ⟨j, e34, hj⟩ : ∃ j : Nat, a'.tmps.getD 34 undef = .int .i64 j ∧ j < n := XHas.at (hdep 34 (by kernel_rfl)).2.2
          exact hand_val XG6.nd (fun w => GrM.rfl' w) hW rfl rfl rfl (run_ixE _ _ _ (.tmp 29) (.tmp 34) bb off n c2 j hj rfl e29 e34) ⟨j, rfl, hj⟩
        · obtain ⟨j, e35, hj⟩ : ∃ j : Nat, a'.tmps.getD 35 undef = .pointer (some ⟨bb, off + j * 7, none⟩) ∧ j < n := XHas.at (hdep 35 (by kernel_rfl)).2.2
          exact hand_val XG6.nd (fun w => GrM.rfl' w) hW rfl rfl rfl (run_fldE _ _ _ (.tmp 35) bb _ rfl e35) ⟨j, rfl, hj⟩
        · obtain ⟨j, e36, hj⟩ : ∃ j : Nat, a'.tmps.getD 36 undef = .pointer (some ⟨bb, off + j * 7, none⟩) ∧ j < n := XHas.at (hdep 36 (by kernel_rfl)).2.2
          exact hand_val XG6.nd (fun w => GrM.rfl' w) hW rfl rfl rfl (run_ldF _ _ _ (.tmp 36) bb _ _ rfl e36 ((hE j hj).of_block (hgr.block bb (by omega) hbb.1 (fun q hq => by cases hq)))) ⟨_, rfl⟩
      · intro f w7 hf hgr hst hrd
        obtain ⟨f7, e37⟩ : ∃ f5 : F5, f 37 = fvv f5 := XHas.at (hf 37 (by decide)).2.2
        obtain ⟨p7, hp7, hr7⟩ := hrd
        have HR7 := Lib.hid hr7
        have B7 := Lib.hid (hgr.box B6.out (by omega) (fun q hq => by cases hq))
        have B7' := Lib.hid (hgr.box B6'.out (by omega) (fun q hq => by cases hq))
        have HT7 := Lib.hid (hgr.box HT6.out (by omega) (fun q hq => by cases hq))
        have HF7 := Lib.hid (hgr.box HF6.out (by omega) (fun q hq => by cases hq))
        have HI7 := Lib.hid (HI6.out.of_block hgr.size (fun q hq => hgr.block q.block (by have := (hbk.out q hq).2.2.2.1; omega) (hbk.out q hq).1 (fun x hx => by cases hx)))
        have HH7 := Lib.hid (HH6.out.of_block hgr.size (fun q hq => by injection hq with hq; subst hq; exact hgr.block b0 (by have := hbh.out.2.2.2.1; omega) hbh.out.1 (fun x hx => by cases hx)))
        have q7 := Lib.hid (q6.out.trans (hgr.below (L := w.heap.size) (by omega) (by omega) (fun q hq => by cases hq)))
        have z7 := hgr.size
        obtain ⟨x0, x1, x2, x3, x4⟩ := f7
        have HF7o := HF7.out
        obtain ⟨y0, y1, y2, y3, y4, yf⟩ := HF7o.five
        simp only [List.drop_succ_cons, List.drop_zero, putL, Act.put, List.setIfInBounds_toArray, List.set_cons_succ, List.set_cons_zero, e37, fvv]
        clear hf hgr hst e37 hr7 HF7o
        go_upto_region 7 with fail
        obtain ⟨w8, hw8⟩ : ∃ W, W = ((((w7.setCell ⟨w3.heap.size, 0, none⟩ (.int .i64 x0)).setCell ⟨w3.heap.size, 1, none⟩ (.int .i64 x1)).setCell ⟨w3.heap.size, 2, none⟩ (.int .i64 x2)).setCell ⟨w3.heap.size, 3, none⟩ (.int .i64 x3)).setCell ⟨w3.heap.size, 4, none⟩ (.int .i64 x4) := ⟨_, rfl⟩
        have hg8 : w7.grownBy w8 (some w3.heap.size) := by rw [hw8]; exact grownBy_tr (grownBy_tr (grownBy_tr (grownBy_tr (gb_setp _ _ _) (gb_setp _ ⟨w3.heap.size, 1, none⟩ _)) (gb_setp _ ⟨w3.heap.size, 2, none⟩ _)) (gb_setp _ ⟨w3.heap.size, 3, none⟩ _)) (gb_setp _ ⟨w3.heap.size, 4, none⟩ _)
        have HF8 : Hid (Box w8 w3.heap.size 37 [.int .i64 x0, .int .i64 x1, .int .i64 x2, .int .i64 x3, .int .i64 x4]) := Lib.hid (by rw [hw8]; exact ((((HF7.out.set 0 _).set 1 _).set 2 _).set 3 _).set 4 _)
        rw [← hw8]
        have HR8 := Lib.hid (HR7.out.far hg8 (by omega) (by omega))
        have B8 := Lib.hid (B7.out.by hg8 (by omega))
        have B8' := Lib.hid (B7'.out.by hg8 (by omega))
        have HT8 := Lib.hid (HT7.out.by hg8 (by omega))
        have HI8 := Lib.hid (HI7.out.of_block hg8.size (fun q hq => hg8.block q.block (by have := (hbk.out q hq).2.2.2.1; omega) (fun e => by have := (hbk.out q hq).2.2.2.1; simp at e; omega)))
        have HH8 := Lib.hid (HH7.out.of_block hg8.size (fun q hq => by injection hq with hq; subst hq; exact hg8.block b0 (by have := hbh.out.2.2.2.1; omega) (fun e => by have := hbh.out.2.2.2.1; simp at e; omega)))
        have q8 := Lib.hid (q7.out.trans ⟨hg8.os, hg8.tape, hg8.output, hg8.size, fun k hk => hg8.block k (by omega) (fun e => by simp at e; omega)⟩)
        have z8 := hg8.size
        clear hw8 hg8 HF7 HR7 B7 B7' HT7 HI7 HH7 q7 y0 y1 y2 y3 y4 yf
        have HG9 : RelOk (w.heap.size + 2) g w8 (GrM g [(w.heap.size, 30, [.int .i64 N, .int .i64 R, .slice (some ⟨bb, off, none⟩) n c2]), (w.heap.size + 1, 37, [.int .i64 x0, .int .i64 x1, .int .i64 x2, .int .i64 x3, .int .i64 x4])]) := GrM.ok (fun q hq => by
              rcases List.mem_cons.1 hq with h | h
              · rw [h]; exact ⟨by show w.heap.size < _; omega, B8.out.lt⟩
              · rw [List.mem_singleton.1 h]; exact ⟨by show w.heap.size + 1 < _; omega, B8'.out.lt⟩) (by omega)
        refine region_checked_G (D := w.heap.size + 2) (D0 := w.heap.size) _ 0 false 22 57 g p7 1 (GrM g [(w.heap.size, 30, [.int .i64 N, .int .i64 R, .slice (some ⟨bb, off, none⟩) n c2]), (w.heap.size + 1, 37, [.int .i64 x0, .int .i64 x1, .int .i64 x2, .int .i64 x3, .int .i64 x4])]) (FM [(20, (w.heap.size, 30, [.int .i64 N, .int .i64 R, .slice (some ⟨bb, off, none⟩) n c2])), (21, (w.heap.size + 1, 37, [.int .i64 x0, .int .i64 x1, .int .i64 x2, .int .i64 x3, .int .i64 x4]))]) [(6, .rd)] [(6, .rd), (38, .any), (39, .any), (40, .any), (41, .rd), (42, .int 0 19), (43, .int 60 79), (44, .rd), (45, .int 0 255), (46, .int 60 315), (47, .rd), (48, .int 0 59), (49, .sl [(60, 79), (60, 315), (0, 59), (100001, 100001)]), (50, .sl [(0, 0), (0, 0), (1, 1), (1, 1), (2, 2), (2, 2), (3, 3)]), (51, .rd), (52, .int 0 6), (53, .pt 0 3), (54, .int 0 3), (55, .pt 0 100001), (56, .int 0 100001), (2, .any)]
          [38, 39, 40, 41, 42, 43, 44, 45, 46, 47, 48, 49, 50, 51, 52, 53, 54, 55, 56, 2] [] [(38, fun v _ => v = .slice (some ⟨b0, 0, none⟩) pn pc), (39, fun v _ => v = .agg #[.int .i64 N, .int .i64 R, .slice (some ⟨bb, off, none⟩) n c2]), (40, fun v _ => v = .agg #[.int .i64 x0, .int .i64 x1, .int .i64 x2, .int .i64 x3, .int .i64 x4]), (2, fun v _ => v = .slice (some ⟨b0, 0, none⟩) pn pc)] [38, 39, 40, 2] [0, 1, 2, 19, 20, 21] rfl (by kernel_rfl) rfl ?_ (fun h => by cases h) ?_ HR8.out (by omega) (by omega) HG9 (FM.stable (fun x hx => by
              rcases List.mem_cons.1 hx with h | h
              · rw [h]; exact List.mem_cons_self
              · rw [List.mem_singleton.1 h]; exact List.mem_cons_of_mem _ List.mem_cons_self)) (by omega) ?_ ?_
        · intro q hq v w9 w9' h _
          simp only [List.mem_cons, List.not_mem_nil, or_false] at hq
          rcases hq with rfl | rfl | rfl | rfl <;> exact h
        · intro q hq
          rw [List.mem_singleton.1 hq]
          rfl
        · intro i hi o hin ho k a' W' hk hdef hfrm hdep hgr hW
          have hnd : (([(38, fun v _ => v = .slice (some ⟨b0, 0, none⟩) pn pc), (39, fun v _ => v = .agg #[.int .i64 N, .int .i64 R, .slice (some ⟨bb, off, none⟩) n c2]), (40, fun v _ => v = .agg #[.int .i64 x0, .int .i64 x1, .int .i64 x2, .int .i64 x3, .int .i64 x4]), (2, fun v _ => v = .slice (some ⟨b0, 0, none⟩) pn pc)] : List (Tmp × VP)).map (·.1)).Nodup := by show ([38, 39, 40, 2] : List Nat).Nodup; decide
          have hT' : Box W' w2.heap.size 30 [.int .i64 N, .int .i64 R, .slice (some ⟨bb, off, none⟩) n c2] := hgr.box HT8.out (by omega) (fun q hq => by
              rcases List.mem_cons.1 hq with h | h
              · rw [h]; exact (by show w2.heap.size ≠ w.heap.size; omega)
              · rw [List.mem_singleton.1 h]; exact (by show w2.heap.size ≠ w.heap.size + 1; omega))
          have hF' : Box W' w3.heap.size 37 [.int .i64 x0, .int .i64 x1, .int .i64 x2, .int .i64 x3, .int .i64 x4] := hgr.box HF8.out (by omega) (fun q hq => by
              rcases List.mem_cons.1 hq with h | h
              · rw [h]; exact (by show w3.heap.size ≠ w.heap.size; omega)
              · rw [List.mem_singleton.1 h]; exact (by show w3.heap.size ≠ w.heap.size + 1; omega))
          have e7 : a'.tmps.getD 7 undef = .slice (some ⟨b0, 0, none⟩) pn pc := (hfrm 7 (by kernel_rfl)).trans rfl
          have e8 : a'.tmps.getD 8 undef = .pointer (some ⟨w2.heap.size, 0, none⟩) := (hfrm 8 (by kernel_rfl)).trans rfl
          have e9 : a'.tmps.getD 9 undef = .pointer (some ⟨w3.heap.size, 0, none⟩) := (hfrm 9 (by kernel_rfl)).trans rfl
          have e3 : a'.tmps.getD 3 undef = .pointer (some ⟨w.heap.size, 0, none⟩) := (hfrm 3 (by kernel_rfl)).trans rfl
          have e4 : a'.tmps.getD 4 undef = .pointer (some ⟨w.heap.size + 1, 0, none⟩) := (hfrm 4 (by kernel_rfl)).trans rfl
          have hlt9 : ∀ x ∈ ([(w.heap.size, 30, [.int .i64 N, .int .i64 R, .slice (some ⟨bb, off, none⟩) n c2]), (w.heap.size + 1, 37, [.int .i64 x0, .int .i64 x1, .int .i64 x2, .int .i64 x3, .int .i64 x4])] : List MB), x.1 < W'.heap.size := (fun x hx => by
              rcases List.mem_cons.1 hx with h | h
              · rw [h]; exact (by show w.heap.size < _; have := hgr.size; omega)
              · rw [List.mem_singleton.1 h]; exact (by show w.heap.size + 1 < _; have := hgr.size; omega))
          simp only [List.mem_cons, List.not_mem_nil, or_false] at hi
          rcases hi with rfl | rfl | rfl | rfl | rfl | rfl
          all_goals
            injection ho with ho
            subst ho
          · exact hand_val hnd (fun w => GrM.rfl' w) hW rfl rfl rfl ((run_mv _ _ _ (.tmp 7) _ e7).1 rfl) rfl
          · exact hand_val hnd (fun w => GrM.rfl' w) hW rfl rfl rfl (run_ldTi _ _ _ (.tmp 8) w2.heap.size _ _ _ rfl e8 hT') rfl
          · exact hand_val hnd (fun w => GrM.rfl' w) hW rfl rfl rfl (run_ldFi _ _ _ (.tmp 9) w3.heap.size _ _ _ _ _ rfl e9 hF') rfl
          · have e38 : a'.tmps.getD 38 undef = _ := XHas.at (hdep 38 (by kernel_rfl)).2.2
            exact hand_val hnd (fun w => GrM.rfl' w) hW rfl rfl rfl ((run_mv _ _ _ (.tmp 38) _ e38).2 rfl) rfl
          · have e39 : a'.tmps.getD 39 undef = _ := XHas.at (hdep 39 (by kernel_rfl)).2.2
            obtain ⟨us, hus, hul⟩ := hgr.len (q := (w.heap.size, 30, [.int .i64 N, .int .i64 R, .slice (some ⟨bb, off, none⟩) n c2])) List.mem_cons_self B8.out rfl
            exact hand_table (q := (w.heap.size, 30, [.int .i64 N, .int .i64 R, .slice (some ⟨bb, off, none⟩) n c2])) List.mem_cons_self (fun x hx => by
              rcases List.mem_cons.1 hx with h | h
              · rw [h]; exact (fun _ => rfl)
              · rw [List.mem_singleton.1 h]; exact (fun h9 => absurd h9 (by show ¬ w.heap.size + 1 = w.heap.size; omega))) (fun x hx => by
              rcases List.mem_cons.1 hx with h | h
              · rw [h]; exact (fun _ => rfl)
              · rw [List.mem_singleton.1 h]; exact (fun h9 => absurd h9 (by show ¬ (21 : Nat) = 20; decide))) hW (Nat.le_refl _) (by show w.heap.size ≠ g; omega) rfl rfl e3 e39 rfl hus hul hlt9
          · have e40 : a'.tmps.getD 40 undef = fvv (x0, x1, x2, x3, x4) := XHas.at (hdep 40 (by kernel_rfl)).2.2
            obtain ⟨us, hus, hul⟩ := hgr.len (q := (w.heap.size + 1, 37, [.int .i64 x0, .int .i64 x1, .int .i64 x2, .int .i64 x3, .int .i64 x4])) (List.mem_cons_of_mem _ List.mem_cons_self) B8'.out rfl
            exact hand_flow (q := (w.heap.size + 1, 37, [.int .i64 x0, .int .i64 x1, .int .i64 x2, .int .i64 x3, .int .i64 x4])) (List.mem_cons_of_mem _ List.mem_cons_self) (fun x hx => by
              rcases List.mem_cons.1 hx with h | h
              · rw [h]; exact (fun h9 => absurd h9 (by show ¬ w.heap.size = w.heap.size + 1; omega))
              · rw [List.mem_singleton.1 h]; exact (fun _ => rfl)) (fun x hx => by
              rcases List.mem_cons.1 hx with h | h
              · rw [h]; exact (fun h9 => absurd h9 (by show ¬ (20 : Nat) = 21; decide))
              · rw [List.mem_singleton.1 h]; exact (fun _ => rfl)) hW (by show w.heap.size ≤ w.heap.size + 1; omega) (by show w.heap.size + 1 ≠ g; omega) rfl rfl e4 e40 rfl hus hul hlt9
        · intro f w9 hf hgr hst hrd
          obtain ⟨nw, e56, n1, n2⟩ := (hf 56 (by decide)).1
          have e56' : f 56 = .int .i64 nw := e56
          have e2' : f 2 = .slice (some ⟨b0, 0, none⟩) pn pc := XHas.at (hf 2 (by decide)).2.2
          have hBc : Box w9 w.heap.size 30 [.int .i64 N, .int .i64 R, .slice (some ⟨bb, off, none⟩) n c2] := hst 20 _ (by decide) rfl rfl _ List.mem_cons_self rfl
          have hBf : Box w9 (w.heap.size + 1) 37 [.int .i64 x0, .int .i64 x1, .int .i64 x2, .int .i64 x3, .int .i64 x4] := hst 21 _ (by decide) rfl rfl _ (List.mem_cons_of_mem _ List.mem_cons_self) rfl
          have q9 := Lib.hid (q8.out.trans (hgr.below (L := w.heap.size) (by omega) (by omega) (fun q hq => by
              rcases List.mem_cons.1 hq with h | h
              · rw [h]; exact (Nat.le_refl _)
              · rw [List.mem_singleton.1 h]; exact (by show w.heap.size ≤ w.heap.size + 1; omega))))
          have HI9 := Lib.hid (HI8.out.of_block hgr.size (fun q hq => hgr.block q.block (by have := (hbk.out q hq).2.2.2.1; omega) (hbk.out q hq).1 (fun x hx => by
              rcases List.mem_cons.1 hx with h | h
              · rw [h]; exact (hbk.out q hq).2.1
              · rw [List.mem_singleton.1 h]; exact (hbk.out q hq).2.2.1)))
          have HH9 := Lib.hid (HH8.out.of_block hgr.size (fun q hq => by injection hq with hq; subst hq; exact hgr.block b0 (by have := hbh.out.2.2.2.1; omega) hbh.out.1 (fun x hx => by
              rcases List.mem_cons.1 hx with h | h
              · rw [h]; exact hbh.out.2.1
              · rw [List.mem_singleton.1 h]; exact hbh.out.2.2.1)))
          obtain ⟨y0, y1, y2, fy⟩ := hBc.three
          obtain ⟨v0, v1, v2, v3, v4, fv9⟩ := hBf.five
          simp only [List.drop_succ_cons, List.drop_zero, putL, Act.put, List.setIfInBounds_toArray, List.set_cons_succ, List.set_cons_zero, e2', e56']
          clear hf hgr hst hrd e56 e56' e2' hBc hBf
          go_wp2
          refine bodyPost_ret (v := .tuple #[.slice (some ⟨b0, 0, none⟩) pn pc, .agg #[.int .i64 N, .int .i64 R, .slice (some ⟨bb, off, none⟩) n c2], .agg #[.int .i64 x0, .int .i64 x1, .int .i64 x2, .int .i64 x3, .int .i64 x4], .int .i64 nw]) (by simp [results, Try.results52, go_sem, y0, y1, y2, v0, v1, v2, v3, v4]) rfl ?_
          exact hret.out (x0, x1, x2, x3, x4) nw _ HI9.out HH9.out q9.out
    · go_upto_region 7 with fail
      have HG9 : RelOk (w.heap.size + 2) g w6 (GrM g [(w.heap.size, 30, [.int .i64 N, .int .i64 R, .slice b n c2]), (w.heap.size + 1, 37, [.int .i64 f0, .int .i64 f1, .int .i64 f2, .int .i64 f3, .int .i64 f4])]) := GrM.ok (fun q hq => by
            rcases List.mem_cons.1 hq with h | h
            · rw [h]; exact ⟨by show w.heap.size < _; omega, B6.out.lt⟩
            · rw [List.mem_singleton.1 h]; exact ⟨by show w.heap.size + 1 < _; omega, B6'.out.lt⟩) (by omega)
      refine region_checked_G (D := w.heap.size + 2) (D0 := w.heap.size) _ 0 false 22 57 g (p5 + 1) 1 (GrM g [(w.heap.size, 30, [.int .i64 N, .int .i64 R, .slice b n c2]), (w.heap.size + 1, 37, [.int .i64 f0, .int .i64 f1, .int .i64 f2, .int .i64 f3, .int .i64 f4])]) (FM [(20, (w.heap.size, 30, [.int .i64 N, .int .i64 R, .slice b n c2])), (21, (w.heap.size + 1, 37, [.int .i64 f0, .int .i64 f1, .int .i64 f2, .int .i64 f3, .int .i64 f4]))]) [(6, .rd)] [(6, .rd), (38, .any), (39, .any), (40, .any), (41, .rd), (42, .int 0 19), (43, .int 60 79), (44, .rd), (45, .int 0 255), (46, .int 60 315), (47, .rd), (48, .int 0 59), (49, .sl [(60, 79), (60, 315), (0, 59), (100001, 100001)]), (50, .sl [(0, 0), (0, 0), (1, 1), (1, 1), (2, 2), (2, 2), (3, 3)]), (51, .rd), (52, .int 0 6), (53, .pt 0 3), (54, .int 0 3), (55, .pt 0 100001), (56, .int 0 100001), (2, .any)]
        [38, 39, 40, 41, 42, 43, 44, 45, 46, 47, 48, 49, 50, 51, 52, 53, 54, 55, 56, 2] [] [(38, fun v _ => v = .slice (some ⟨b0, 0, none⟩) pn pc), (39, fun v _ => v = .agg #[.int .i64 N, .int .i64 R, .slice b n c2]), (40, fun v _ => v = .agg #[.int .i64 f0, .int .i64 f1, .int .i64 f2, .int .i64 f3, .int .i64 f4]), (2, fun v _ => v = .slice (some ⟨b0, 0, none⟩) pn pc)] [38, 39, 40, 2] [0, 1, 2, 19, 20, 21] rfl (by kernel_rfl) rfl ?_ (fun h => by cases h) ?_ HR6.out (by omega) (by omega) HG9 (FM.stable (fun x hx => by
            rcases List.mem_cons.1 hx with h | h
            · rw [h]; exact List.mem_cons_self
            · rw [List.mem_singleton.1 h]; exact List.mem_cons_of_mem _ List.mem_cons_self)) (by omega) ?_ ?_
      · intro q hq v w9 w9' h _
        simp only [List.mem_cons, List.not_mem_nil, or_false] at hq
        rcases hq with rfl | rfl | rfl | rfl <;> exact h
      · intro q hq
        rw [List.mem_singleton.1 hq]
        rfl
      · intro i hi o hin ho k a' W' hk hdef hfrm hdep hgr hW
        have hnd : (([(38, fun v _ => v = .slice (some ⟨b0, 0, none⟩) pn pc), (39, fun v _ => v = .agg #[.int .i64 N, .int .i64 R, .slice b n c2]), (40, fun v _ => v = .agg #[.int .i64 f0, .int .i64 f1, .int .i64 f2, .int .i64 f3, .int .i64 f4]), (2, fun v _ => v = .slice (some ⟨b0, 0, none⟩) pn pc)] : List (Tmp × VP)).map (·.1)).Nodup := by show ([38, 39, 40, 2] : List Nat).Nodup; decide
        have hT' : Box W' w2.heap.size 30 [.int .i64 N, .int .i64 R, .slice b n c2] := hgr.box HT6.out (by omega) (fun q hq => by
            rcases List.mem_cons.1 hq with h | h
            · rw [h]; exact (by show w2.heap.size ≠ w.heap.size; omega)
            · rw [List.mem_singleton.1 h]; exact (by show w2.heap.size ≠ w.heap.size + 1; omega))
        have hF' : Box W' w3.heap.size 37 [.int .i64 f0, .int .i64 f1, .int .i64 f2, .int .i64 f3, .int .i64 f4] := hgr.box HF6.out (by omega) (fun q hq => by
            rcases List.mem_cons.1 hq with h | h
            · rw [h]; exact (by show w3.heap.size ≠ w.heap.size; omega)
            · rw [List.mem_singleton.1 h]; exact (by show w3.heap.size ≠ w.heap.size + 1; omega))
        have e7 : a'.tmps.getD 7 undef = .slice (some ⟨b0, 0, none⟩) pn pc := (hfrm 7 (by kernel_rfl)).trans rfl
        have e8 : a'.tmps.getD 8 undef = .pointer (some ⟨w2.heap.size, 0, none⟩) := (hfrm 8 (by kernel_rfl)).trans rfl
        have e9 : a'.tmps.getD 9 undef = .pointer (some ⟨w3.heap.size, 0, none⟩) := (hfrm 9 (by kernel_rfl)).trans rfl
        have e3 : a'.tmps.getD 3 undef = .pointer (some ⟨w.heap.size, 0, none⟩) := (hfrm 3 (by kernel_rfl)).trans rfl
        have e4 : a'.tmps.getD 4 undef = .pointer (some ⟨w.heap.size + 1, 0, none⟩) := (hfrm 4 (by kernel_rfl)).trans rfl
        have hlt9 : ∀ x ∈ ([(w.heap.size, 30, [.int .i64 N, .int .i64 R, .slice b n c2]), (w.heap.size + 1, 37, [.int .i64 f0, .int .i64 f1, .int .i64 f2, .int .i64 f3, .int .i64 f4])] : List MB), x.1 < W'.heap.size := (fun x hx => by
            rcases List.mem_cons.1 hx with h | h
            · rw [h]; exact (by show w.heap.size < _; have := hgr.size; omega)
            · rw [List.mem_singleton.1 h]; exact (by show w.heap.size + 1 < _; have := hgr.size; omega))
        simp only [List.mem_cons, List.not_mem_nil, or_false] at hi
        rcases hi with rfl | rfl | rfl | rfl | rfl | rfl
        all_goals
          injection ho with ho
          subst ho
        · exact hand_val hnd (fun w => GrM.rfl' w) hW rfl rfl rfl ((run_mv _ _ _ (.tmp 7) _ e7).1 rfl) rfl
        · exact hand_val hnd (fun w => GrM.rfl' w) hW rfl rfl rfl (run_ldTi _ _ _ (.tmp 8) w2.heap.size _ _ _ rfl e8 hT') rfl
        · exact hand_val hnd (fun w => GrM.rfl' w) hW rfl rfl rfl (run_ldFi _ _ _ (.tmp 9) w3.heap.size _ _ _ _ _ rfl e9 hF') rfl
        · have e38 : a'.tmps.getD 38 undef = _ := XHas.at (hdep 38 (by kernel_rfl)).2.2
          exact hand_val hnd (fun w => GrM.rfl' w) hW rfl rfl rfl ((run_mv _ _ _ (.tmp 38) _ e38).2 rfl) rfl
        · have e39 : a'.tmps.getD 39 undef = _ := XHas.at (hdep 39 (by kernel_rfl)).2.2
          obtain ⟨us, hus, hul⟩ := hgr.len (q := (w.heap.size, 30, [.int .i64 N, .int .i64 R, .slice b n c2])) List.mem_cons_self B6.out rfl
          exact hand_table (q := (w.heap.size, 30, [.int .i64 N, .int .i64 R, .slice b n c2])) List.mem_cons_self (fun x hx => by
            rcases List.mem_cons.1 hx with h | h
            · rw [h]; exact (fun _ => rfl)
            · rw [List.mem_singleton.1 h]; exact (fun h9 => absurd h9 (by show ¬ w.heap.size + 1 = w.heap.size; omega))) (fun x hx => by
            rcases List.mem_cons.1 hx with h | h
            · rw [h]; exact (fun _ => rfl)
            · rw [List.mem_singleton.1 h]; exact (fun h9 => absurd h9 (by show ¬ (21 : Nat) = 20; decide))) hW (Nat.le_refl _) (by show w.heap.size ≠ g; omega) rfl rfl e3 e39 rfl hus hul hlt9
        · have e40 : a'.tmps.getD 40 undef = fvv (f0, f1, f2, f3, f4) := XHas.at (hdep 40 (by kernel_rfl)).2.2
          obtain ⟨us, hus, hul⟩ := hgr.len (q := (w.heap.size + 1, 37, [.int .i64 f0, .int .i64 f1, .int .i64 f2, .int .i64 f3, .int .i64 f4])) (List.mem_cons_of_mem _ List.mem_cons_self) B6'.out rfl
          exact hand_flow (q := (w.heap.size + 1, 37, [.int .i64 f0, .int .i64 f1, .int .i64 f2, .int .i64 f3, .int .i64 f4])) (List.mem_cons_of_mem _ List.mem_cons_self) (fun x hx => by
            rcases List.mem_cons.1 hx with h | h
            · rw [h]; exact (fun h9 => absurd h9 (by show ¬ w.heap.size = w.heap.size + 1; omega))
            · rw [List.mem_singleton.1 h]; exact (fun _ => rfl)) (fun x hx => by
            rcases List.mem_cons.1 hx with h | h
            · rw [h]; exact (fun h9 => absurd h9 (by show ¬ (20 : Nat) = 21; decide))
            · rw [List.mem_singleton.1 h]; exact (fun _ => rfl)) hW (by show w.heap.size ≤ w.heap.size + 1; omega) (by show w.heap.size + 1 ≠ g; omega) rfl rfl e4 e40 rfl hus hul hlt9
      · intro f w9 hf hgr hst hrd
        obtain ⟨nw, e56, n1, n2⟩ := (hf 56 (by decide)).1
        have e56' : f 56 = .int .i64 nw := e56
        have e2' : f 2 = .slice (some ⟨b0, 0, none⟩) pn pc := XHas.at (hf 2 (by decide)).2.2
        have hBc : Box w9 w.heap.size 30 [.int .i64 N, .int .i64 R, .slice b n c2] := hst 20 _ (by decide) rfl rfl _ List.mem_cons_self rfl
        have hBf : Box w9 (w.heap.size + 1) 37 [.int .i64 f0, .int .i64 f1, .int .i64 f2, .int .i64 f3, .int .i64 f4] := hst 21 _ (by decide) rfl rfl _ (List.mem_cons_of_mem _ List.mem_cons_self) rfl
        have q9 := Lib.hid (q6.out.trans (hgr.below (L := w.heap.size) (by omega) (by omega) (fun q hq => by
            rcases List.mem_cons.1 hq with h | h
            · rw [h]; exact (Nat.le_refl _)
            · rw [List.mem_singleton.1 h]; exact (by show w.heap.size ≤ w.heap.size + 1; omega))))
        have HI9 := Lib.hid (HI6.out.of_block hgr.size (fun q hq => hgr.block q.block (by have := (hbk.out q hq).2.2.2.1; omega) (hbk.out q hq).1 (fun x hx => by
            rcases List.mem_cons.1 hx with h | h
            · rw [h]; exact (hbk.out q hq).2.1
            · rw [List.mem_singleton.1 h]; exact (hbk.out q hq).2.2.1)))
        have HH9 := Lib.hid (HH6.out.of_block hgr.size (fun q hq => by injection hq with hq; subst hq; exact hgr.block b0 (by have := hbh.out.2.2.2.1; omega) hbh.out.1 (fun x hx => by
            rcases List.mem_cons.1 hx with h | h
            · rw [h]; exact hbh.out.2.1
            · rw [List.mem_singleton.1 h]; exact hbh.out.2.2.1)))
        obtain ⟨y0, y1, y2, fy⟩ := hBc.three
        obtain ⟨v0, v1, v2, v3, v4, fv9⟩ := hBf.five
        simp only [List.drop_succ_cons, List.drop_zero, putL, Act.put, List.setIfInBounds_toArray, List.set_cons_succ, List.set_cons_zero, e2', e56']
        clear hf hgr hst hrd e56 e56' e2' hBc hBf
        go_wp2
        refine bodyPost_ret (v := .tuple #[.slice (some ⟨b0, 0, none⟩) pn pc, .agg #[.int .i64 N, .int .i64 R, .slice b n c2], .agg #[.int .i64 f0, .int .i64 f1, .int .i64 f2, .int .i64 f3, .int .i64 f4], .int .i64 nw]) (by simp [results, Try.results52, go_sem, y0, y1, y2, v0, v1, v2, v3, v4]) rfl ?_
        exact hret.out (f0, f1, f2, f3, f4) nw _ HI9.out HH9.out q9.out
end Go.Proofs.Ytdkdfehlmphikaa
