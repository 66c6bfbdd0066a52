/- The reference's Needs answers what a route needs. -/
import Derived.Test.YtginpmhjpjcahaaNeedP
import Derived.Test.YtginpmhjpjcahaaApp
import Derived.Test.YtginpmhjpjcahaaPure
import Derived.BigRegion
namespace Go.Proofs.Ytginpmhjpjcahaa.L
open Go.RowKit
set_option linter.unusedVariables false
set_option linter.unusedSimpArgs false
theorem info65 : (Try.prog.info? 65).map (fun i => (i.zero, i.size, i.bytes)) = some (some (.agg #[.int .i64 0, .int .i64 0]), 2, 16) := by kernel_rfl
theorem new_cells (W : World) (cs : List Value) (t : TypeId) {g : Nat} (hg : g = W.heap.size) : ∀ (i : Nat) (u : Value), cs[i]? = some u → (W.alloc (.cells cs.toArray t)).cell? ((⟨g, 0, none⟩ : Addr).add i) = some u := by
  intro i u hu
  subst hg
  rw [add_zero, cell_of_row _ _ _ _ _ _ (heap_alloc_new W _)]
  simpa using hu
theorem own_next {v v' : Value} {B s : Nat} (h : ∀ b, v.ownBlock = some b → B ≤ b) (ha : v'.ownBlock = v.ownBlock ∨ v'.ownBlock = some s) (hs : B ≤ s) : ∀ b, v'.ownBlock = some b → B ≤ b := by
  intro b hb
  rcases ha with ha | ha
  · exact h b (ha ▸ hb)
  · rw [ha] at hb
    injection hb with hb
    omega
theorem below_push {B : Nat} {W w1 w2 : World} {v : Value} (hb : Below B W w1) (hg : w1.grownBy w2 v.ownBlock) (ho : ∀ b, v.ownBlock = some b → B ≤ b) (hs : B ≤ w1.heap.size) : Below B W w2 := hb.grown hg hs (fun k hk => ho k hk)
theorem take_push {α : Type} {xs : List α} {k : Nat} {x : α} (h : xs[k]? = some x) : xs.take (k + 1) = xs.take k ++ [x] := by
  rw [List.take_add_one, h]
  rfl
set_option maxRecDepth 100000 in
set_option maxHeartbeats 8000000 in
theorem specNeeds {ok : Nat → Prop} (r : Route) (v0 v1 v2 v4 v5 v6 : Value) (A3 A7 : Option Addr) (c3 c7 : Nat) (w : World) (h3 : lieK.C w ok A3 r.lies) (h7 : flankK.C w ok A7 r.flanks) (hl : r.lies.length ≤ 1048576) (hf : r.flanks.length ≤ 1048576) :
    Calls Try.prog 33 #[.agg #[v0, v1, v2, .slice A3 r.lies.length c3, v4, v5, v6, .slice A7 r.flanks.length c7]] w (RetW 65 lieK nobody (needs r) w) := by
  obtain ⟨i0, hi, hz0, hz1, hz2⟩ := info_parts info65
  go_enter Try.func33, Try.ntmps33
  go_wp2
  obtain ⟨W0, hW0, hB0, hs0, f7⟩ : ∃ W0, W0 = w.alloc (.cells #[v0, v1, v2, .slice A3 r.lies.length c3, v4, v5, v6, .slice A7 r.flanks.length c7] 57) ∧ Below w.heap.size w W0 ∧ w.heap.size < W0.heap.size ∧
    W0.cell? ⟨w.heap.size, 7, none⟩ = some (.slice A7 r.flanks.length c7) := ⟨_, rfl, below_alloc _ _, by simp, by simp⟩
  rw [← hW0]
  clear hW0
  go_loopw [3, 14] (fun o i wr => ∃ k : Nat, k ≤ r.lies.length ∧ i = .int .i64 k ∧ Hid (lieK.Rw 65 wr nobody o (r.lies.take k)) ∧ Hid (∀ b, o.ownBlock = some b → W0.heap.size ≤ b) ∧ Below W0.heap.size W0 wr) (fun _ i _ => r.lies.length - (intOf i).toNat)
  case atStart => exact ⟨0, Nat.zero_le _, rfl, Lib.hid (by rw [List.take_zero]; exact Kn.Rw.nil), Lib.hid (by simp [Value.ownBlock]), Below.refl _ _⟩
  case round =>
    obtain ⟨k, hk, rfl, HR, HO, hb⟩ := hrel
    have hbw := hB0.trans (hb.mono hB0.size)
    by_cases hlt : k < r.lies.length
    · obtain ⟨a3, rfl, y0, y1, E, g0, g1⟩ := lieK_at (Kn.C_below hbw h3) k hlt
      have j0 : (0 : Int) ≤ (k : Int) := Int.natCast_nonneg _
      have j1 : (k : Int) < (r.lies.length : Int) := by omega
      have hbx := (hb.alloc hb.size (Obj.cells #[.int .i64 y0, .int .i64 y1] 65)).alloc (by have := hb.size; simp; omega) (Obj.cells #[.int .i64 y0, .int .i64 y1] 65)
      go_wp2_with (at_builtin; refine wpList_append_rw _ rfl (.tmp 18) (.tmp 20) 52 rfl 65 i0 _ 16 Try.underlying52 hi hz0 hz1 hz2 rfl (by decide) u3 (r.lies.take k) [⟨y0, y1⟩] rfl ((HR.out.below (below_alloc _ _)).below (below_alloc _ _)) (fun _ h => h.elim) (some ⟨wr.heap.size + 1, 0, none⟩) 1 1 rfl rfl (Kn.Src.one (lieK_mk _ _ _) (new_cells _ _ _ (by simp))) (by simp only [maxLen, List.length_take]; omega) (by simp only [List.length_take]; omega) ?_; intro v' w1 HR1 hg1 hat1)
      have HR2 : Hid (lieK.Rw 65 w1 nobody v' (r.lies.take (k + 1))) := Lib.hid (by rw [take_push E.out]; exact HR1)
      have HO2 := Lib.hid (own_next HO.out hat1 hbx.size)
      have hb2 := below_push hbx hg1 HO.out hbx.size
      clear HR1 hat1 hg1 HR HO
      go_wp2
      go_roundw
      case rel => exact ⟨k + 1, by omega, by go_num, HR2, HO2, hb2⟩
      case measure => simp [intOf]; omega
    · obtain rfl : k = r.lies.length := by omega
      rw [List.take_length] at HR
      obtain ⟨hc, hf0⟩ := bcell hb
      have hs2 : w.heap.size < wr.heap.size := by have := hb.size; omega
      go_wp2
      clear hbw hc hf0 hs2
      obtain ⟨wa, hwa, hba, HRa⟩ : ∃ wa, wa = wr ∧ Below W0.heap.size W0 wa ∧ Hid (lieK.Rw 65 wa nobody u3 r.lies) := ⟨_, rfl, hb, HR⟩
      rw [← hwa]
      clear hwa hb HR
      go_loopw [3, 26] (fun o i wr => ∃ k : Nat, k ≤ r.flanks.length ∧ i = .int .i64 k ∧ Hid (lieK.Rw 65 wr nobody o (needsTo r.lies r.flanks k)) ∧ Hid (∀ b, o.ownBlock = some b → W0.heap.size ≤ b) ∧ Below W0.heap.size W0 wr) (fun _ i _ => r.flanks.length - (intOf i).toNat)
      case atStart => exact ⟨0, Nat.zero_le _, rfl, HRa, HO, hba⟩
      case round =>
        clear HRa HO hba hk hlt
        obtain ⟨k, hk, rfl, HR, HO, hb⟩ := hrel
        have hbw := hB0.trans (hb.mono hB0.size)
        obtain ⟨wo, rfl⟩ : ∃ wo : World, wo = wr := ⟨_, rfl⟩
        by_cases hlt : k < r.flanks.length
        · obtain ⟨a7, rfl, y0, y1, y2, y3, E, g0, g1, g2, g3⟩ := flankK_at (Kn.C_below hbw h7) k hlt
          have j0 : (0 : Int) ≤ (k : Int) := Int.natCast_nonneg _
          have j1 : (k : Int) < (r.flanks.length : Int) := by omega
          by_cases q : y1 = 3
          rotate_left
          · have d0 : (y1 != 3) = true := int_ne q
            have HN := needsTo_skip (ls := r.lies) E.out q
            have HR2 : Hid (lieK.Rw 65 (wo.alloc (.cells #[.int .i64 y0, .int .i64 y1, .int .i64 y2, .int .i64 y3] 63)) nobody u3 (needsTo r.lies r.flanks (k + 1))) := Lib.hid (by rw [HN]; exact HR.out.below (below_alloc _ _))
            clear HN HR q
            go_wp2
            go_roundw
            case rel => exact ⟨k + 1, by omega, by go_num, HR2, HO, hb.alloc hb.size _⟩
            case measure => simp [intOf]; omega
          have d0 : (y1 != 3) = false := by rw [q]; rfl
          have Q := Lib.hid q
          clear q
          obtain ⟨ns, HNS⟩ : ∃ ns, Hid (needsTo r.lies r.flanks k = ns) := ⟨_, Lib.hid rfl⟩
          have hnl := needsTo_len r.lies r.flanks k
          rw [HNS.out] at HR hnl
          obtain ⟨An, cn, rfl, hcn, HC⟩ := HR.out.C
          have HC := Lib.hid HC
          go_wp2
          obtain ⟨W1, hW1, hB1, hs1, f1, f2, f3⟩ : ∃ W1, W1 = wo.alloc (.cells #[.int .i64 y0, .int .i64 y1, .int .i64 y2, .int .i64 y3] 63) ∧ Below wo.heap.size wo W1 ∧ wo.heap.size < W1.heap.size ∧
            W1.cell? ⟨wo.heap.size, 1, none⟩ = some (.int .i64 y1) ∧ W1.cell? ⟨wo.heap.size, 2, none⟩ = some (.int .i64 y2) ∧ W1.cell? ⟨wo.heap.size, 3, none⟩ = some (.int .i64 y3) := ⟨_, rfl, below_alloc _ _, by simp, by simp, by simp, by simp⟩
          rw [← hW1]
          clear hW1
          have hb1 := hb.trans (hB1.mono hb.size)
          go_loopw [8, 35] (fun o i wr => ∃ m : Nat, m ≤ ns.length ∧ i = .int .i64 m ∧ o = .bool (pv (inTo ns m ⟨y2, y3⟩)) ∧ Below W1.heap.size W1 wr) (fun _ i _ => ns.length - (intOf i).toNat)
          case atStart => exact ⟨0, Nat.zero_le _, rfl, by rw [pv_false inTo_zero], Below.refl _ _⟩
          case round =>
            obtain ⟨m, hm, rfl, rfl, hbi⟩ := hrel
            obtain ⟨hci, hfi⟩ := bcell hbi
            have hs3 : wo.heap.size < wr.heap.size := by have := hbi.size; omega
            have hbj := hb1.trans (hbi.mono hb1.size)
            by_cases hlm : m < ns.length
            · obtain ⟨an, rfl, z0, z1, E1, k0, k1⟩ := lieK_at (Kn.C_below (hB1.trans (hbi.mono hB1.size)) HC.out) m hlm
              have m0 : (0 : Int) ≤ (m : Int) := Int.natCast_nonneg _
              have m1 : (m : Int) < (ns.length : Int) := by omega
              by_cases qm : inTo ns m ⟨y2, y3⟩
              · have D : pv (inTo ns m ⟨y2, y3⟩) = true := pv_true qm
                have HN : Hid (pv (inTo ns (m + 1) ⟨y2, y3⟩) = true) := Lib.hid (pv_true (by obtain ⟨j, hj, h⟩ := qm; exact ⟨j, by omega, h⟩))
                clear qm
                go_wp2
                go_roundw
                case rel => exact ⟨m + 1, by omega, by go_num, by rw [HN.out], hbi.alloc hbi.size _⟩
                case measure => simp [intOf]; omega
              have D : pv (inTo ns m ⟨y2, y3⟩) = false := pv_false qm
              by_cases e0 : z0 = y2
              rotate_left
              · have d1 := int_eqf e0
                have HN : Hid (pv (inTo ns (m + 1) ⟨y2, y3⟩) = false) := Lib.hid (pv_false (inTo_snoc qm E1.out (fun h => e0 (by injection h))))
                clear qm e0
                go_wp2
                go_roundw
                case rel => exact ⟨m + 1, by omega, by go_num, by rw [HN.out], hbi.alloc hbi.size _⟩
                case measure => simp [intOf]; omega
              have d1 := int_eqt e0
              by_cases e1 : z1 = y3
              rotate_left
              · have d2 := int_eqf e1
                have HN : Hid (pv (inTo ns (m + 1) ⟨y2, y3⟩) = false) := Lib.hid (pv_false (inTo_snoc qm E1.out (fun h => e1 (by injection h))))
                clear qm e0 e1
                go_wp2
                go_roundw
                case rel => exact ⟨m + 1, by omega, by go_num, by rw [HN.out], hbi.alloc hbi.size _⟩
                case measure => simp [intOf]; omega
              have d2 := int_eqt e1
              have HN : Hid (pv (inTo ns (m + 1) ⟨y2, y3⟩) = true) := Lib.hid (pv_true ⟨m, by omega, by rw [E1.out, e0, e1]⟩)
              clear qm e0 e1
              go_wp2
              go_roundw
              case rel => exact ⟨m + 1, by omega, by go_num, by rw [HN.out], hbi.alloc hbi.size _⟩
              case measure => simp [intOf]; omega
            · obtain rfl : m = ns.length := by omega
              by_cases qm : inTo ns ns.length ⟨y2, y3⟩
              · have D : pv (inTo ns ns.length ⟨y2, y3⟩) = true := pv_true qm
                have HN : Hid (needsTo r.lies r.flanks (k + 1) = ns) := Lib.hid (by rw [needsTo_had E.out (by rw [HNS.out]; obtain ⟨j, _, h⟩ := qm; exact mem_of_get h), HNS.out])
                have HR2 := Lib.hid ((HR.out.below (hB1.trans (hbi.mono hB1.size))))
                clear qm HR
                go_wp2
                go_roundw
                case rel => exact ⟨k + 1, by omega, by go_num, by rw [HN.out]; exact HR2, HO, hbj⟩
                case measure => simp [intOf]; omega
              · have D : pv (inTo ns ns.length ⟨y2, y3⟩) = false := pv_false qm
                have HN : Hid (needsTo r.lies r.flanks (k + 1) = ns ++ [⟨y2, y3⟩]) := Lib.hid (by rw [needsTo_new E.out Q.out (by rw [HNS.out]; exact inTo_all qm), HNS.out])
                have HR2 := Lib.hid ((HR.out.below (hB1.trans (hbi.mono hB1.size))))
                have hbx := hbj.alloc hbj.size (Obj.cells #[.int .i64 y2, .int .i64 y3] 65)
                clear qm HR
                go_wp2_with (at_builtin; refine wpList_append_rw _ rfl (.tmp 57) (.tmp 63) 52 rfl 65 i0 _ 16 Try.underlying52 hi hz0 hz1 hz2 rfl (by decide) (.slice An ns.length cn) ns [⟨y2, y3⟩] rfl (HR2.out.below (below_alloc _ _)) (fun _ h => h.elim) (some ⟨wr.heap.size, 0, none⟩) 1 1 rfl rfl (Kn.Src.one (lieK_mk _ _ _) (new_cells _ _ _ rfl)) (by simp only [maxLen]; omega) (by omega) ?_; intro v' w1 HR3 hg1 hat1)
                have HR4 := Lib.hid HR3
                have HO2 := Lib.hid (own_next HO.out hat1 hbx.size)
                have hb2 := below_push hbx hg1 HO.out hbx.size
                clear HR3 hat1 hg1 HR2 HO
                go_wp2
                go_roundw
                case rel => exact ⟨k + 1, by omega, by go_num, by rw [HN.out]; exact HR4, HO2, hb2⟩
                case measure => simp [intOf]; omega
        · obtain rfl : k = r.flanks.length := by omega
          go_wp2
          go_ret
          exact ⟨_, rfl, HR.out, fun b h => by have := HO.out b h; omega, hbw⟩
end Go.Proofs.Ytginpmhjpjcahaa.L
