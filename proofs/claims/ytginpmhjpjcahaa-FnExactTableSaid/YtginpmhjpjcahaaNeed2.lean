/- The program's Needs answers what a route needs. -/
import Derived.Test.YtginpmhjpjcahaaNeed
import Derived.Test.YtginpmhjpjcahaaCont
import Derived.OneCell
import Derived.StillTailTactics
namespace Go.Proofs.Ytginpmhjpjcahaa.L
open Go.RowKit
set_option linter.unusedVariables false
set_option linter.unusedSimpArgs false
/-- A captured variable that holds a row of one's own. -/
def Box {α : Type} (d : Kn α) (e tS : Nat) (w : World) (g : Nat) (xs : List α) (v : Value) : Prop := w.heap[g]? = some (.cells #[v] tS (0, 0)) ∧ d.Rw e w nobody v xs ∧ ∀ b, v.ownBlock = some b → g < b
/-- What becomes of it: the same, and all else as it was but for what was made above it. -/
def RetBox {α : Type} (d : Kn α) (e tS : Nat) (B g : Nat) (xs : List α) (w : World) (en : Ending) (w' : World) : Prop := ∃ v, en = .returned (.tuple #[]) ∧ Box d e tS w' g xs v ∧ Below B w w'
set_option maxRecDepth 100000 in
set_option maxHeartbeats 4000000 in
theorem put (g : Nat) (xs : List Lie) (x : Lie) (v : Value) (w : World) (hb : Box lieK 65 52 w g xs v) (hl : xs.length ≤ 4194304) :
    Calls Try.prog 101 #[x.v, .pointer (some ⟨g, 0, none⟩)] w (RetBox lieK 65 52 g g (if pv (x ∈ xs) = true then xs else xs ++ [x]) w) := by
  obtain ⟨i0, hi, hz0, hz1, hz2⟩ := info_parts info65
  obtain ⟨x0, x1⟩ := x
  obtain ⟨hv, HR, HO⟩ := hb
  obtain ⟨A, c, rfl, hc, HC⟩ := HR.C
  have f0 := cell_of_one hv
  have f1 := free_of_one hv
  have hg := lt_of_get hv
  have HR := Lib.hid HR
  have HO := Lib.hid HO
  have HV := Lib.hid hv
  clear hv
  by_cases q : (⟨x0, x1⟩ : Lie) ∈ xs
  · have E : Hid (pv ((⟨x0, x1⟩ : Lie) ∈ xs) = true) := Lib.hid (pv_true q)
    rw [if_pos E.out]
    clear q
    go_enter Try.func101, Try.ntmps101
    go_wp2_with fail
    refine (containsLie _ _ xs ⟨x0, x1⟩ _ (Kn.C_below (below_alloc _ _) HC)).mono ?_
    rintro e w1 ⟨rfl, hb1⟩
    rw [E.out]
    have hbw := (below_alloc _ _).trans (hb1.mono (by simp))
    go_wp2
    go_end0
    exact ⟨_, rfl, ⟨(hbw.block _ hg).trans HV.out, HR.out.below hbw, HO.out⟩, hbw.mono (by omega)⟩
  · have E : Hid (pv ((⟨x0, x1⟩ : Lie) ∈ xs) = false) := Lib.hid (pv_false q)
    rw [if_neg (by rw [E.out]; simp)]
    clear q
    go_enter Try.func101, Try.ntmps101
    go_wp2_with fail
    refine (containsLie _ _ xs ⟨x0, x1⟩ _ (Kn.C_below (below_alloc _ _) HC)).mono ?_
    rintro e w1 ⟨rfl, hb1⟩
    rw [E.out]
    have hbw := (below_alloc _ _).trans (hb1.mono (by simp))
    have HV1 : Hid (w1.heap[g]? = some (.cells #[.slice A xs.length c] 52 (0, 0))) := Lib.hid ((hbw.block _ hg).trans HV.out)
    have k0 := cell_of_one HV1.out
    have hs1 : w.heap.size < w1.heap.size := by have := hb1.size; simp at this; omega
    have kx0 : w1.cell? ⟨w.heap.size, 0, none⟩ = some (.int .i64 x0) := cell_below hb1 (by simp)
    have kx1 : w1.cell? ⟨w.heap.size, 1, none⟩ = some (.int .i64 x1) := cell_below hb1 (by simp)
    go_wp2_with (at_builtin; refine wpList_append_rw _ rfl (.tmp 7) (.tmp 9) 52 rfl 65 i0 _ 16 Try.underlying52 hi hz0 hz1 hz2 rfl (by decide) (.slice A xs.length c) xs [⟨x0, x1⟩] rfl ((HR.out.below hbw).below (below_alloc _ _)) (fun _ h => h.elim) (some ⟨w1.heap.size, 0, none⟩) 1 1 rfl rfl (Kn.Src.one (lieK_mk _ _ _) (new_cells _ _ _ rfl)) (by simp only [maxLen]; omega) (by omega) ?_; intro v' w2 HR2 hg2 hat2; obtain ⟨A2, c2, rfl, hc2⟩ := HR2.form1; have HV2 := Lib.hid ((hg2.block g (by simp; omega) (fun e => by have := HO.out g e.symm; omega)).trans ((below_alloc _ _).block g (by omega) |>.trans HV1.out)); have k2 := cell_of_one HV2.out; have k3 := free_of_one HV2.out)
    go_end0
    have hs2 := hg2.size
    simp at hs2
    refine ⟨_, rfl, ⟨one_setCell HV2.out, ?_, ?_⟩, ?_⟩
    · refine Kn.Rw.move (fun k hk => Below.heap_setCell _ _ _ _ ?_) (fun _ h => h.elim) HR2
      have := own_next (B := g + 1) (fun b h => HO.out b h) hat2 (by simp; omega) k hk
      show k ≠ g
      omega
    · exact fun b h => own_next (B := g + 1) (fun b h => HO.out b h) hat2 (by simp; omega) b h
    · exact ((below_push ((hbw.mono (by omega : g ≤ w.heap.size)).alloc (by omega) _) hg2 (fun b h => by have := HO.out b h; omega) (by simp; omega))).setCell (Nat.le_refl _) _
theorem heap_get_at (W : World) (o : Obj) {g : Nat} (hg : g = W.heap.size) : (W.alloc o).heap[g]? = some o := by rw [hg]; exact heap_alloc_new W o
theorem lieK_flat : ∀ (w : World) (ok ok' : Nat → Prop) (x : Lie) (cs : List Value), lieK.K w ok x cs → lieK.K w ok' x cs := fun _ _ _ _ _ h => h
set_option maxRecDepth 100000 in
set_option maxHeartbeats 8000000 in
theorem implNeeds {ok : Nat → Prop} (r : Route) (v0 v1 v2 v4 v5 v6 : Value) (A3 A7 : Option Addr) (c3 c7 : Nat) (w : World) (h3 : lieK.C w ok A3 r.lies) (h7 : flankK.C w ok A7 r.flanks) (hl : r.lies.length ≤ 1048576) (hf : r.flanks.length ≤ 1048576) :
    Calls Try.prog 34 #[.agg #[v0, v1, v2, .slice A3 r.lies.length c3, v4, v5, v6, .slice A7 r.flanks.length c7]] w (RetW 65 lieK nobody (needs r) w) := by
  obtain ⟨i0, hi, hz0, hz1, hz2⟩ := info_parts info65
  have H3 : Hid (lieK.C ((w.alloc (.cells #[v0, v1, v2, .slice A3 r.lies.length c3, v4, v5, v6, .slice A7 r.flanks.length c7] 57)).alloc (.cells #[.slice none 0 0] 52)) ok A3 r.lies) := Lib.hid (Kn.C_below ((below_alloc _ _).alloc (by simp) _) h3)
  go_enter Try.func34, Try.ntmps34
  go_wp2_with (at_builtin; refine wpList_append_rw _ rfl (.tmp 8) (.tmp 10) 52 rfl 65 i0 _ 16 Try.underlying52 hi hz0 hz1 hz2 rfl (by decide) (.slice none 0 0) [] r.lies rfl (Kn.Rw.nil (d := lieK) (ok := nobody)) (fun _ h => h.elim) A3 r.lies.length c3 rfl rfl (Kn.Src.flat lieK_flat H3.out) (by simp only [maxLen, List.length_nil]; omega) (by simp only [List.length_nil]; omega) ?_; intro v' w2 HR2 hg2 hat2; rw [List.nil_append] at HR2; obtain ⟨A2, c2, rfl, hc2, _⟩ := HR2.form; have HV := Lib.hid ((hg2.block (w.heap.size + 1) (by simp) (by simp [Value.ownBlock])).trans (heap_get_at _ _ (by simp))); have k0 := cell_of_one HV.out; have k1 := free_of_one HV.out; have k7 : w2.cell? ⟨w.heap.size, 7, none⟩ = some (.slice A7 r.flanks.length c7) := (World.cell?_of_block (hg2.block w.heap.size (by simp; omega) (by simp [Value.ownBlock]))).trans (by simp))
  have hs2 := hg2.size
  simp at hs2
  have ho2 : ∀ b, (Value.slice A2 r.lies.length c2).ownBlock = some b → w.heap.size + 1 < b := own_next (B := w.heap.size + 2) (by simp [Value.ownBlock]) hat2 (by simp)
  have hbx : Box lieK 65 52 (w2.setCell ⟨w.heap.size + 1, 0, none⟩ (.slice A2 r.lies.length c2)) (w.heap.size + 1) r.lies (.slice A2 r.lies.length c2) := by
    refine ⟨one_setCell HV.out, Kn.Rw.move (fun k hk => Below.heap_setCell _ _ _ _ ?_) (fun _ h => h.elim) HR2, ho2⟩
    have := ho2 k hk
    show k ≠ w.heap.size + 1
    omega
  have hbw : Below (w.heap.size + 1) (w.alloc (.cells #[v0, v1, v2, .slice A3 r.lies.length c3, v4, v5, v6, .slice A7 r.flanks.length c7] 57)) (w2.setCell ⟨w.heap.size + 1, 0, none⟩ (.slice A2 r.lies.length c2)) := by
    have z0 : Below (w.heap.size + 1) (w.alloc (.cells #[v0, v1, v2, .slice A3 r.lies.length c3, v4, v5, v6, .slice A7 r.flanks.length c7] 57)) ((w.alloc (.cells #[v0, v1, v2, .slice A3 r.lies.length c3, v4, v5, v6, .slice A7 r.flanks.length c7] 57)).alloc (.cells #[.slice none 0 0] 52)) := (Below.refl _ _).alloc (by simp) _
    have z1 := z0.grown hg2 (by simp) (fun k hk => by simp [Value.ownBlock] at hk)
    exact z1.setCell (Nat.le_refl _) _
  obtain ⟨W0, hW0, hB0, hs0, f7⟩ : ∃ W0, W0 = w.alloc (.cells #[v0, v1, v2, .slice A3 r.lies.length c3, v4, v5, v6, .slice A7 r.flanks.length c7] 57) ∧ Below w.heap.size w W0 ∧ W0.heap.size = w.heap.size + 1 ∧
    W0.cell? ⟨w.heap.size, 7, none⟩ = some (.slice A7 r.flanks.length c7) := ⟨_, rfl, below_alloc _ _, by simp, by simp⟩
  rw [← hW0] at hbw
  have HS0 := Lib.hid hs0
  have hs1 : w.heap.size < W0.heap.size := by omega
  clear hW0 H3 HV k0 k1 k7 HR2 hg2 hat2 ho2 hs2 hs0
  generalize w2.setCell ⟨w.heap.size + 1, 0, none⟩ (.slice A2 r.lies.length c2) = W1 at hbx hbw ⊢
  go_loopw [15] (fun i wr => ∃ k v, k ≤ r.flanks.length ∧ i = .int .i64 (k : Nat) ∧ Box lieK 65 52 wr (w.heap.size + 1) (needsTo r.lies r.flanks k) v ∧ Below (w.heap.size + 1) W0 wr) (fun i _ => r.flanks.length - (intOf i).toNat)
  case atStart => exact ⟨0, _, Nat.zero_le _, rfl, hbx, hbw⟩
  case round =>
    clear hbx hbw
    obtain ⟨k, v, hk, rfl, hbx, hb⟩ := hrel
    have hsr : w.heap.size + 1 < wr.heap.size := lt_of_get hbx.1
    have hbw := hB0.trans (hb.mono (by omega : w.heap.size ≤ w.heap.size + 1))
    have hnl := needsTo_len r.lies r.flanks k
    by_cases hlt : k < r.flanks.length
    · obtain ⟨a7, rfl, y0, y1, y2, y3, E, g0, g1, g2, g3⟩ := flankK_at (Kn.C_below hbw h7) k hlt
      have j0 : (0 : Int) ≤ (k : Int) := Int.natCast_nonneg _
      have j1 : (k : Int) < (r.flanks.length : Int) := by omega
      have hbx2 : Box lieK 65 52 (wr.alloc (.cells #[.int .i64 y0, .int .i64 y1, .int .i64 y2, .int .i64 y3] 63)) (w.heap.size + 1) (needsTo r.lies r.flanks k) v :=
        ⟨((below_alloc _ _).block _ (by omega)).trans hbx.1, hbx.2.1.below (below_alloc _ _), hbx.2.2⟩
      have HBX := Lib.hid hbx2
      clear hbx hbx2
      by_cases q : y1 = 3
      · have d0 : (y1 == 3) = true := int_eqt q
        have HN := Lib.hid (needsTo_put (ls := r.lies) E.out q)
        clear q
        go_wp2_with fail
        refine (put (w.heap.size + 1) (needsTo r.lies r.flanks k) ⟨y2, y3⟩ v _ HBX.out (by omega)).mono ?_
        rintro e w1 ⟨v', rfl, hbx1, hb1⟩
        have HB1 := Lib.hid hbx1
        clear hbx1
        go_wp2
        go_roundw
        case rel => exact ⟨k + 1, v', by omega, by go_num, by rw [HN.out]; exact HB1.out, (hb.alloc (by omega) _).trans hb1⟩
        case measure => simp [intOf]; omega
      · have d0 : (y1 == 3) = false := int_eqf q
        have HN := Lib.hid (needsTo_skip (ls := r.lies) E.out q)
        clear q
        go_wp2
        go_roundw
        case rel => exact ⟨k + 1, v, by omega, by go_num, by rw [HN.out]; exact HBX.out, hb.alloc (by omega) _⟩
        case measure => simp [intOf]; omega
    · obtain rfl : k = r.flanks.length := by omega
      have k0 := cell_of_one hbx.1
      have HBX := Lib.hid hbx
      clear hbx
      go_wp2
      go_ret
      exact ⟨v, rfl, HBX.out.2.1, fun b h => by have := HBX.out.2.2 b h; omega, hbw⟩
end Go.Proofs.Ytginpmhjpjcahaa.L
