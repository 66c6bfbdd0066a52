/- The laws' marker of slices of routes. -/
import Derived.Test.YtginpmhjpjcahaaMark2
namespace Go.Proofs.Ytginpmhjpjcahaa.L
open Go.RowKit
set_option linter.unusedVariables false
set_option linter.unusedSimpArgs false
theorem drop_cells {inner cs : List Value} {j sz n : Nat} (hl : inner.length = n * sz) (hj : j < n) (h : (inner.drop (j * sz)).take sz = cs) (i : Nat) (hi : i < sz) : inner[j * sz + i]? = cs[i]? := by
  rw [← h, List.getElem?_take, if_pos hi, List.getElem?_drop]
theorem O_slice {α : Type} {d : Kn α} {e : Nat} {w : World} {xs : List α} {v : Value} {F : List Nat} (h : (Kn.slice e d).O w xs [v] F) : ∃ A c, v = .slice A xs.length c := by
  obtain ⟨A, c, he, _, _⟩ := (Kn.slice e d).K_of h
  injection he with he _
  exact ⟨A, c, he⟩
/-- What the first j rounds may have written. -/
def Wrote (A : Option Addr) (n c : Nat) (ps : List (Route × List Nat)) (j b : Nat) : Prop := (Value.slice A n c).ownBlock = some b ∨ Firsts ps j b
set_option maxRecDepth 100000 in
set_option maxHeartbeats 8000000 in
theorem markRouteS (A : Option Addr) (c : Nat) (ps : List (Route × List Nat)) (k : Int) (w : World) (hr : rK.R 57 w (.slice A ps.length c) ps) (hn : lenS Route.n (ps.map Prod.fst) ≤ 1073741824) (he : Hid (∀ p ∈ ps, p.1.n ≤ 4194304)) (h0 : 0 ≤ k) (h1 : k ≤ 1073741824) :
    Calls Try.prog 49 #[.slice A ps.length c, .int .i64 k] w (RetMk (Kn.foot (.slice A ps.length c) ps) k (4 * lenS Route.n (ps.map Prod.fst)) w) := by
  have hlt := Lib.hid (Kn.R_lt hr)
  obtain ⟨inner, ho, hit, hnd⟩ := hr
  have HO := Lib.hid ho
  have HI := Lib.hid hit
  unfold Kn.foot at hnd
  rw [List.nodup_append] at hnd
  have ND := Lib.hid hnd
  clear ho hit hnd
  unfold lenS at hn ⊢
  rw [List.length_map] at hn ⊢
  have htot : ∀ j, tot Route.n ((ps.map Prod.fst).take j) ≤ tot Route.n (ps.map Prod.fst) := fun j => tot_le _ _ _
  have HTT := Lib.hid htot
  clear htot
  go_enter Try.func49, Try.ntmps49
  go_wp2
  go_loopw [1, 5] (fun kk i wr => ∃ (j : Nat) (k' : Int), j ≤ ps.length ∧ i = .int .i64 j ∧ kk = .int .i64 k' ∧ k ≤ k' ∧ Hid (k' ≤ k + 4 * (tot Route.n ((ps.map Prod.fst).take j) : Nat) + 2 * j) ∧ Hid (∃ inn, wr.ownsRow 0 57 8 (.slice A ps.length c) ps.length inn ∧ ∀ i, 8 * j ≤ i → inn[i]? = inner[i]?) ∧ Hid (Keep (Wrote A ps.length c ps j) w wr)) (fun _ i _ => ps.length - (intOf i).toNat)
  case atStart => exact ⟨0, k, Nat.zero_le _, rfl, rfl, Int.le_refl _, Lib.hid (by simp [tot]), Lib.hid ⟨inner, HO.out, fun _ _ => rfl⟩, Lib.hid (Keep.refl _ _)⟩
  case round =>
    obtain ⟨j, k', hj, rfl, rfl, hkl, HK, HW, HP⟩ := hrel
    by_cases hlt' : j < ps.length
    · obtain ⟨p, hp⟩ : ∃ p, ps[j]? = some p := ⟨_, List.getElem?_eq_getElem hlt'⟩
      have hO := HI.out j p hp
      have i0 : (0 : Int) ≤ (j : Int) := Int.natCast_nonneg _
      have i1 : (j : Int) < (ps.length : Int) := by omega
      have hxt : tot Route.n ((ps.map Prod.fst).take (j + 1)) = tot Route.n ((ps.map Prod.fst).take j) + p.1.n := tot_push _ _ _ p.1 (by rw [List.getElem?_map, hp]; rfl)
      have hx2 := HTT.out (j + 1)
      have hpn : p.1.n ≤ 4194304 := he.out p (List.mem_of_getElem? hp)
      have hkb : k' ≤ 8589934592 := by have := HK.out; have := HTT.out j; omega
      obtain ⟨g, hA, hcell⟩ : ∃ g, A = some ⟨g, 0, none⟩ ∧ g < w.heap.size := by
        rcases HO.out.2 with ⟨he, h2⟩ | ⟨g, cap, cur, he, _, hh, _, _, _⟩
        · omega
        · injection he with he _ _
          exact ⟨g, he, lt_of_get hh⟩
      subst hA
      obtain ⟨inn, hoi, hsame⟩ := HW.out
      obtain ⟨v2, v3, v4, v5, v6, v7, F2, F3, F4, F5, F6, F7, hcs, hF, o2, o3, o4, o5, o6, o7, hFn⟩ := routeK_O hO
      have hdc := drop_cells (sz := 8) HO.out.1 hlt' hcs
      obtain ⟨A2, c2, rfl⟩ := O_slice o2
      obtain ⟨A3, c3, rfl⟩ := O_slice o3
      obtain ⟨A4, c4, rfl⟩ := O_slice o4
      obtain ⟨A5, c5, rfl⟩ := O_slice o5
      obtain ⟨A6, c6, rfl⟩ := O_slice o6
      obtain ⟨A7, c7, rfl⟩ := O_slice o7
      have hcl : ∀ i u, i < 8 → [Value.int .i64 p.1.frm, .int .i64 p.1.til, .slice A2 p.1.steps.length c2, .slice A3 p.1.lies.length c3, .slice A4 p.1.crosses.length c4, .slice A5 p.1.parts.length c5, .slice A6 p.1.over.length c6, .slice A7 p.1.flanks.length c7][i]? = some u → wr.cell? ⟨g, j * 8 + i, none⟩ = some u := fun i u hi hu => by
        rw [hoi.cellAt _ (by omega), hsame _ (by omega)]
        exact (hdc i hi).trans hu
      have q0 := hcl 0 _ (by omega) rfl
      have q1 := hcl 1 _ (by omega) rfl
      have q2 := hcl 2 _ (by omega) rfl
      have q3 := hcl 3 _ (by omega) rfl
      have q4 := hcl 4 _ (by omega) rfl
      have q5 := hcl 5 _ (by omega) rfl
      have q6 := hcl 6 _ (by omega) rfl
      have q7 := hcl 7 _ (by omega) rfl
      have z0 : wr.frozen? ⟨g, j * 8, none⟩ = false := hoi.frozenAt _
      have z1 : wr.frozen? ⟨g, j * 8 + 1, none⟩ = false := hoi.frozenAt _
      have q0 : wr.cell? ⟨g, j * 8, none⟩ = some (.int .i64 p.1.frm) := q0
      have hmem : ∀ b, b ∈ (F2 ++ (F3 ++ (F4 ++ (F5 ++ (F6 ++ F7))))) → b ∈ p.2 := fun b h => hF ▸ h
      have hfp : ∀ b, b ∈ p.2 → ¬ Firsts ps j b := fun b hb ⟨i, q, hi, hq, hbq⟩ => items_apart ND.out.2.1 hq hp (by omega) hbq hb
      have hgo : g ∈ (Value.slice (some ⟨g, 0, none⟩) ps.length c).ownBlock.toList := by simp [Value.ownBlock]
      have hgp : ∀ b, b ∈ p.2 → ¬ (Value.slice (some ⟨g, 0, none⟩) ps.length c).ownBlock = some b := fun b h e => by
        have e : g = b := by simpa [Value.ownBlock] using e
        subst e
        exact ND.out.2.2 g hgo g (List.mem_flatten.2 ⟨p.2, List.mem_map.2 ⟨p, List.mem_of_getElem? hp, rfl⟩, h⟩) rfl
      have hnw : ∀ b, b ∈ p.2 → ¬ Wrote (some ⟨g, 0, none⟩) ps.length c ps j b := fun b h e => by
        rcases e with e | e
        · exact hgp b h e
        · exact hfp b h e
      rw [hF] at hFn
      obtain ⟨a23, a24, a25, a26, a27, a34, a35, a36, a37, a45, a46, a47, a56, a57, a67⟩ := apart6 hFn
      obtain ⟨inner2, r2, f2⟩ := O_row o2
      clear o2
      obtain ⟨inner3, r3, f3⟩ := O_row o3
      clear o3
      obtain ⟨inner4, r4, f4⟩ := O_row o4
      clear o4
      obtain ⟨inner5, r5, f5⟩ := O_row o5
      clear o5
      obtain ⟨inner6, r6, f6⟩ := O_row o6
      clear o6
      obtain ⟨inner7, r7, f7⟩ := O_row o7
      clear o7
      have M2 := Lib.hid (fun b (h : b ∈ F2) => hmem b (by simp [h]))
      have R2 := Lib.hid r2
      have F2' := Lib.hid f2
      have T2 : Hid (∀ b, (Value.slice A2 p.1.steps.length c2).ownBlock = some b → b < w.heap.size) := Lib.hid (fun b hb => (R2.out.lt b hb).2)
      clear r2 f2
      have M3 := Lib.hid (fun b (h : b ∈ F3) => hmem b (by simp [h]))
      have R3 := Lib.hid r3
      have F3' := Lib.hid f3
      have T3 : Hid (∀ b, (Value.slice A3 p.1.lies.length c3).ownBlock = some b → b < w.heap.size) := Lib.hid (fun b hb => (R3.out.lt b hb).2)
      clear r3 f3
      have M4 := Lib.hid (fun b (h : b ∈ F4) => hmem b (by simp [h]))
      have R4 := Lib.hid r4
      have F4' := Lib.hid f4
      have T4 : Hid (∀ b, (Value.slice A4 p.1.crosses.length c4).ownBlock = some b → b < w.heap.size) := Lib.hid (fun b hb => (R4.out.lt b hb).2)
      clear r4 f4
      have M5 := Lib.hid (fun b (h : b ∈ F5) => hmem b (by simp [h]))
      have R5 := Lib.hid r5
      have F5' := Lib.hid f5
      have T5 : Hid (∀ b, (Value.slice A5 p.1.parts.length c5).ownBlock = some b → b < w.heap.size) := Lib.hid (fun b hb => (R5.out.lt b hb).2)
      clear r5 f5
      have M6 := Lib.hid (fun b (h : b ∈ F6) => hmem b (by simp [h]))
      have R6 := Lib.hid r6
      have F6' := Lib.hid f6
      have T6 : Hid (∀ b, (Value.slice A6 p.1.over.length c6).ownBlock = some b → b < w.heap.size) := Lib.hid (fun b hb => (R6.out.lt b hb).2)
      clear r6 f6
      have M7 := Lib.hid (fun b (h : b ∈ F7) => hmem b (by simp [h]))
      have R7 := Lib.hid r7
      have F7' := Lib.hid f7
      have T7 : Hid (∀ b, (Value.slice A7 p.1.flanks.length c7).ownBlock = some b → b < w.heap.size) := Lib.hid (fun b hb => (R7.out.lt b hb).2)
      clear r7 f7
      have A23 := Lib.hid a23
      clear a23
      have A24 := Lib.hid a24
      clear a24
      have A25 := Lib.hid a25
      clear a25
      have A26 := Lib.hid a26
      clear a26
      have A27 := Lib.hid a27
      clear a27
      have A34 := Lib.hid a34
      clear a34
      have A35 := Lib.hid a35
      clear a35
      have A36 := Lib.hid a36
      clear a36
      have A37 := Lib.hid a37
      clear a37
      have A45 := Lib.hid a45
      clear a45
      have A46 := Lib.hid a46
      clear a46
      have A47 := Lib.hid a47
      clear a47
      have A56 := Lib.hid a56
      clear a56
      have A57 := Lib.hid a57
      clear a57
      have A67 := Lib.hid a67
      clear a67
      have NW := Lib.hid hnw
      have HGP := Lib.hid hgp
      have HPP := Lib.hid hp
      have HSM := Lib.hid hsame
      have GL : g < wr.heap.size := Nat.lt_of_lt_of_le hcell HP.out.size
      obtain ⟨ho1, hg1⟩ := hoi.stored (j * 8) (.int .i64 k')
      obtain ⟨ho2, hg2⟩ := ho1.stored (j * 8 + 1) (.int .i64 (k' + 1))
      obtain ⟨W1, hW, B1, RO1, gz1, s2, s3, s4, s5, s6, s7⟩ : ∃ W, W = (wr.setCell ⟨g, j * 8, none⟩ (.int .i64 k')).setCell ⟨g, j * 8 + 1, none⟩ (.int .i64 (k' + 1)) ∧ Hid (Keep (fun b => Wrote (some ⟨g, 0, none⟩) ps.length c ps j b ∨ b ∈ ([] : List Nat)) w W) ∧
          Hid (W.ownsRow 0 57 8 (.slice (some ⟨g, 0, none⟩) ps.length c) ps.length ((inn.set (j * 8) (.int .i64 k')).set (j * 8 + 1) (.int .i64 (k' + 1)))) ∧ g < W.heap.size ∧ W.cell? ⟨g, j * 8 + 2, none⟩ = some (.slice A2 p.1.steps.length c2) ∧ W.cell? ⟨g, j * 8 + 3, none⟩ = some (.slice A3 p.1.lies.length c3) ∧ W.cell? ⟨g, j * 8 + 4, none⟩ = some (.slice A4 p.1.crosses.length c4) ∧ W.cell? ⟨g, j * 8 + 5, none⟩ = some (.slice A5 p.1.parts.length c5) ∧ W.cell? ⟨g, j * 8 + 6, none⟩ = some (.slice A6 p.1.over.length c6) ∧ W.cell? ⟨g, j * 8 + 7, none⟩ = some (.slice A7 p.1.flanks.length c7) :=
        ⟨_, rfl, Lib.hid (((HP.out.grown hg1 (fun b hb _ => .inl (by simpa [Value.ownBlock] using hb))).grown hg2 (fun b hb _ => .inl (by simpa [Value.ownBlock] using hb))).mono (fun b _ h => .inl h)), Lib.hid ho2, by simp; exact GL, by rw [World.cell?_setCell_other _ _ _ _ (fun e => by injection e with e1 e2; omega), World.cell?_setCell_other _ _ _ _ (fun e => by injection e with e1 e2; omega)]; exact q2, by rw [World.cell?_setCell_other _ _ _ _ (fun e => by injection e with e1 e2; omega), World.cell?_setCell_other _ _ _ _ (fun e => by injection e with e1 e2; omega)]; exact q3, by rw [World.cell?_setCell_other _ _ _ _ (fun e => by injection e with e1 e2; omega), World.cell?_setCell_other _ _ _ _ (fun e => by injection e with e1 e2; omega)]; exact q4, by rw [World.cell?_setCell_other _ _ _ _ (fun e => by injection e with e1 e2; omega), World.cell?_setCell_other _ _ _ _ (fun e => by injection e with e1 e2; omega)]; exact q5, by rw [World.cell?_setCell_other _ _ _ _ (fun e => by injection e with e1 e2; omega), World.cell?_setCell_other _ _ _ _ (fun e => by injection e with e1 e2; omega)]; exact q6, by rw [World.cell?_setCell_other _ _ _ _ (fun e => by injection e with e1 e2; omega), World.cell?_setCell_other _ _ _ _ (fun e => by injection e with e1 e2; omega)]; exact q7⟩
      clear ho1 ho2 hg1 hg2 hoi hcl hdc hmem hfp hgo hgp hnw hsame hO hF hFn hp hcs
      go_wp2_with fail
      rw [← hW]
      clear hW z0 z1 q0 q1 q2 q3 q4 q5 q6 q7
      have hRn : p.1.n = p.1.steps.length + p.1.lies.length + p.1.crosses.length + p.1.parts.length + p.1.over.length + p.1.flanks.length := rfl
      have hk1 : ∃ k1 : Int, k1 = k' + 1 + 1 := ⟨_, rfl⟩
      have kb1 : k ≤ k' + 1 + 1 := by omega
      have ro : W1.ownsRow 0 59 2 (.slice A2 p.1.steps.length c2) p.1.steps.length inner2 := Kn.own_move R2.out (fun b hb => B1.out.block b (T2.out b hb) (fun h => by rcases h with h | h; exact NW.out b (M2.out b (F2'.out b hb)) h; cases h))
      refine (markStepS A2 p.1.steps.length c2 (k' + 1 + 1) _ inner2 ro (by omega) (by omega) (by omega)).mono ?_
      intro e w2 hr
      obtain ⟨k2, rfl, hk, _, hg, hs⟩ := RetMark.open hr
      have u2 : k' + 1 + 1 ≤ k2 := by have := hk.out; omega
      have x2 : k2 ≤ k' + 1 + 1 + 2 * (p.1.steps.length : Int) := by have := hk.out; push_cast at this; omega
      clear hr hk ro
      have B2 : Hid (Keep (fun b => Wrote (some ⟨g, 0, none⟩) ps.length c ps j b ∨ b ∈ F2) w w2) := Lib.hid ((B1.out.mono (fun y _ h => by
        rcases h with h | h
        · exact .inl h
        · exact .inr (by cases h))).grown hg (fun b hb _ => .inr (by have := F2'.out b hb; simp [this])))
      have gn : ¬ (Value.slice A2 p.1.steps.length c2).ownBlock = some g := fun h => HGP.out g (M2.out g (F2'.out g h)) (by simp [Value.ownBlock])
      have RO2 := Lib.hid (Kn.own_move RO1.out (fun b hb => hg.block b (by have hb : g = b := (by simpa [Value.ownBlock] using hb); subst hb; exact gz1) (fun h => by have hb : g = b := (by simpa [Value.ownBlock] using hb); subst hb; exact gn h.symm)))
      have gz2 : g < w2.heap.size := by omega
      have t3 : w2.cell? ⟨g, j * 8 + 3, none⟩ = some (.slice A3 p.1.lies.length c3) := (World.cell?_of_block (hg.block g gz1 (fun h => gn h.symm))).trans s3
      have t4 : w2.cell? ⟨g, j * 8 + 4, none⟩ = some (.slice A4 p.1.crosses.length c4) := (World.cell?_of_block (hg.block g gz1 (fun h => gn h.symm))).trans s4
      have t5 : w2.cell? ⟨g, j * 8 + 5, none⟩ = some (.slice A5 p.1.parts.length c5) := (World.cell?_of_block (hg.block g gz1 (fun h => gn h.symm))).trans s5
      have t6 : w2.cell? ⟨g, j * 8 + 6, none⟩ = some (.slice A6 p.1.over.length c6) := (World.cell?_of_block (hg.block g gz1 (fun h => gn h.symm))).trans s6
      have t7 : w2.cell? ⟨g, j * 8 + 7, none⟩ = some (.slice A7 p.1.flanks.length c7) := (World.cell?_of_block (hg.block g gz1 (fun h => gn h.symm))).trans s7
      clear hg hs gn B1 RO1 gz1 s2 s3 s4 s5 s6 s7
      go_wp2_with fail
      obtain ⟨W2, rfl⟩ : ∃ W, W = w2 := ⟨_, rfl⟩
      have s3 := t3
      clear t3
      have s4 := t4
      clear t4
      have s5 := t5
      clear t5
      have s6 := t6
      clear t6
      have s7 := t7
      clear t7
      have ro : W2.ownsRow 0 65 2 (.slice A3 p.1.lies.length c3) p.1.lies.length inner3 := Kn.own_move R3.out (fun b hb => B2.out.block b (T3.out b hb) (fun h => by rcases h with h | h; exact NW.out b (M3.out b (F3'.out b hb)) h; exact A23.out b h (F3'.out b hb)))
      refine (markLieS A3 p.1.lies.length c3 (k2) _ inner3 ro (by omega) (by omega) (by omega)).mono ?_
      intro e w3 hr
      obtain ⟨k3, rfl, hk, _, hg, hs⟩ := RetMark.open hr
      have u3 : k2 ≤ k3 := by have := hk.out; omega
      have x3 : k3 ≤ k2 + 2 * (p.1.lies.length : Int) := by have := hk.out; push_cast at this; omega
      clear hr hk ro
      have B3 : Hid (Keep (fun b => Wrote (some ⟨g, 0, none⟩) ps.length c ps j b ∨ b ∈ F2 ++ F3) w w3) := Lib.hid ((B2.out.mono (fun y _ h => by
        rcases h with h | h
        · exact .inl h
        · exact .inr (by simp only [List.mem_append] at h ⊢; exact .inl h))).grown hg (fun b hb _ => .inr (by have := F3'.out b hb; simp [this])))
      have gn : ¬ (Value.slice A3 p.1.lies.length c3).ownBlock = some g := fun h => HGP.out g (M3.out g (F3'.out g h)) (by simp [Value.ownBlock])
      have RO3 := Lib.hid (Kn.own_move RO2.out (fun b hb => hg.block b (by have hb : g = b := (by simpa [Value.ownBlock] using hb); subst hb; exact gz2) (fun h => by have hb : g = b := (by simpa [Value.ownBlock] using hb); subst hb; exact gn h.symm)))
      have gz3 : g < w3.heap.size := by omega
      have t4 : w3.cell? ⟨g, j * 8 + 4, none⟩ = some (.slice A4 p.1.crosses.length c4) := (World.cell?_of_block (hg.block g gz2 (fun h => gn h.symm))).trans s4
      have t5 : w3.cell? ⟨g, j * 8 + 5, none⟩ = some (.slice A5 p.1.parts.length c5) := (World.cell?_of_block (hg.block g gz2 (fun h => gn h.symm))).trans s5
      have t6 : w3.cell? ⟨g, j * 8 + 6, none⟩ = some (.slice A6 p.1.over.length c6) := (World.cell?_of_block (hg.block g gz2 (fun h => gn h.symm))).trans s6
      have t7 : w3.cell? ⟨g, j * 8 + 7, none⟩ = some (.slice A7 p.1.flanks.length c7) := (World.cell?_of_block (hg.block g gz2 (fun h => gn h.symm))).trans s7
      clear hg hs gn B2 RO2 gz2 s3 s4 s5 s6 s7
      go_wp2_with fail
      obtain ⟨W3, rfl⟩ : ∃ W, W = w3 := ⟨_, rfl⟩
      have s4 := t4
      clear t4
      have s5 := t5
      clear t5
      have s6 := t6
      clear t6
      have s7 := t7
      clear t7
      have ro : W3.ownsRow 0 3 1 (.slice A4 p.1.crosses.length c4) p.1.crosses.length inner4 := Kn.own_move R4.out (fun b hb => B3.out.block b (T4.out b hb) (fun h => by rcases h with h | h; exact NW.out b (M4.out b (F4'.out b hb)) h; simp only [List.mem_append] at h; rcases h with (h | h); exact A24.out b h (F4'.out b hb); exact A34.out b h (F4'.out b hb)))
      refine (markIntS A4 p.1.crosses.length c4 (k3) _ inner4 ro (by omega) (by omega) (by omega)).mono ?_
      intro e w4 hr
      obtain ⟨k4, rfl, hk, _, hg, hs⟩ := RetMark.open hr
      have u4 : k3 ≤ k4 := by have := hk.out; omega
      have x4 : k4 ≤ k3 + 1 * (p.1.crosses.length : Int) := by have := hk.out; push_cast at this; omega
      clear hr hk ro
      have B4 : Hid (Keep (fun b => Wrote (some ⟨g, 0, none⟩) ps.length c ps j b ∨ b ∈ F2 ++ F3 ++ F4) w w4) := Lib.hid ((B3.out.mono (fun y _ h => by
        rcases h with h | h
        · exact .inl h
        · exact .inr (by simp only [List.mem_append] at h ⊢; exact .inl h))).grown hg (fun b hb _ => .inr (by have := F4'.out b hb; simp [this])))
      have gn : ¬ (Value.slice A4 p.1.crosses.length c4).ownBlock = some g := fun h => HGP.out g (M4.out g (F4'.out g h)) (by simp [Value.ownBlock])
      have RO4 := Lib.hid (Kn.own_move RO3.out (fun b hb => hg.block b (by have hb : g = b := (by simpa [Value.ownBlock] using hb); subst hb; exact gz3) (fun h => by have hb : g = b := (by simpa [Value.ownBlock] using hb); subst hb; exact gn h.symm)))
      have gz4 : g < w4.heap.size := by omega
      have t5 : w4.cell? ⟨g, j * 8 + 5, none⟩ = some (.slice A5 p.1.parts.length c5) := (World.cell?_of_block (hg.block g gz3 (fun h => gn h.symm))).trans s5
      have t6 : w4.cell? ⟨g, j * 8 + 6, none⟩ = some (.slice A6 p.1.over.length c6) := (World.cell?_of_block (hg.block g gz3 (fun h => gn h.symm))).trans s6
      have t7 : w4.cell? ⟨g, j * 8 + 7, none⟩ = some (.slice A7 p.1.flanks.length c7) := (World.cell?_of_block (hg.block g gz3 (fun h => gn h.symm))).trans s7
      clear hg hs gn B3 RO3 gz3 s4 s5 s6 s7
      go_wp2_with fail
      obtain ⟨W4, rfl⟩ : ∃ W, W = w4 := ⟨_, rfl⟩
      have s5 := t5
      clear t5
      have s6 := t6
      clear t6
      have s7 := t7
      clear t7
      have ro : W4.ownsRow 0 61 3 (.slice A5 p.1.parts.length c5) p.1.parts.length inner5 := Kn.own_move R5.out (fun b hb => B4.out.block b (T5.out b hb) (fun h => by rcases h with h | h; exact NW.out b (M5.out b (F5'.out b hb)) h; simp only [List.mem_append] at h; rcases h with ((h | h) | h); exact A25.out b h (F5'.out b hb); exact A35.out b h (F5'.out b hb); exact A45.out b h (F5'.out b hb)))
      refine (markPartS A5 p.1.parts.length c5 (k4) _ inner5 ro (by omega) (by omega) (by omega)).mono ?_
      intro e w5 hr
      obtain ⟨k5, rfl, hk, _, hg, hs⟩ := RetMark.open hr
      have u5 : k4 ≤ k5 := by have := hk.out; omega
      have x5 : k5 ≤ k4 + 3 * (p.1.parts.length : Int) := by have := hk.out; push_cast at this; omega
      clear hr hk ro
      have B5 : Hid (Keep (fun b => Wrote (some ⟨g, 0, none⟩) ps.length c ps j b ∨ b ∈ F2 ++ F3 ++ F4 ++ F5) w w5) := Lib.hid ((B4.out.mono (fun y _ h => by
        rcases h with h | h
        · exact .inl h
        · exact .inr (by simp only [List.mem_append] at h ⊢; exact .inl h))).grown hg (fun b hb _ => .inr (by have := F5'.out b hb; simp [this])))
      have gn : ¬ (Value.slice A5 p.1.parts.length c5).ownBlock = some g := fun h => HGP.out g (M5.out g (F5'.out g h)) (by simp [Value.ownBlock])
      have RO5 := Lib.hid (Kn.own_move RO4.out (fun b hb => hg.block b (by have hb : g = b := (by simpa [Value.ownBlock] using hb); subst hb; exact gz4) (fun h => by have hb : g = b := (by simpa [Value.ownBlock] using hb); subst hb; exact gn h.symm)))
      have gz5 : g < w5.heap.size := by omega
      have t6 : w5.cell? ⟨g, j * 8 + 6, none⟩ = some (.slice A6 p.1.over.length c6) := (World.cell?_of_block (hg.block g gz4 (fun h => gn h.symm))).trans s6
      have t7 : w5.cell? ⟨g, j * 8 + 7, none⟩ = some (.slice A7 p.1.flanks.length c7) := (World.cell?_of_block (hg.block g gz4 (fun h => gn h.symm))).trans s7
      clear hg hs gn B4 RO4 gz4 s5 s6 s7
      go_wp2_with fail
      obtain ⟨W5, rfl⟩ : ∃ W, W = w5 := ⟨_, rfl⟩
      have s6 := t6
      clear t6
      have s7 := t7
      clear t7
      have ro : W5.ownsRow 0 61 3 (.slice A6 p.1.over.length c6) p.1.over.length inner6 := Kn.own_move R6.out (fun b hb => B5.out.block b (T6.out b hb) (fun h => by rcases h with h | h; exact NW.out b (M6.out b (F6'.out b hb)) h; simp only [List.mem_append] at h; rcases h with (((h | h) | h) | h); exact A26.out b h (F6'.out b hb); exact A36.out b h (F6'.out b hb); exact A46.out b h (F6'.out b hb); exact A56.out b h (F6'.out b hb)))
      refine (markPartS A6 p.1.over.length c6 (k5) _ inner6 ro (by omega) (by omega) (by omega)).mono ?_
      intro e w6 hr
      obtain ⟨k6, rfl, hk, _, hg, hs⟩ := RetMark.open hr
      have u6 : k5 ≤ k6 := by have := hk.out; omega
      have x6 : k6 ≤ k5 + 3 * (p.1.over.length : Int) := by have := hk.out; push_cast at this; omega
      clear hr hk ro
      have B6 : Hid (Keep (fun b => Wrote (some ⟨g, 0, none⟩) ps.length c ps j b ∨ b ∈ F2 ++ F3 ++ F4 ++ F5 ++ F6) w w6) := Lib.hid ((B5.out.mono (fun y _ h => by
        rcases h with h | h
        · exact .inl h
        · exact .inr (by simp only [List.mem_append] at h ⊢; exact .inl h))).grown hg (fun b hb _ => .inr (by have := F6'.out b hb; simp [this])))
      have gn : ¬ (Value.slice A6 p.1.over.length c6).ownBlock = some g := fun h => HGP.out g (M6.out g (F6'.out g h)) (by simp [Value.ownBlock])
      have RO6 := Lib.hid (Kn.own_move RO5.out (fun b hb => hg.block b (by have hb : g = b := (by simpa [Value.ownBlock] using hb); subst hb; exact gz5) (fun h => by have hb : g = b := (by simpa [Value.ownBlock] using hb); subst hb; exact gn h.symm)))
      have gz6 : g < w6.heap.size := by omega
      have t7 : w6.cell? ⟨g, j * 8 + 7, none⟩ = some (.slice A7 p.1.flanks.length c7) := (World.cell?_of_block (hg.block g gz5 (fun h => gn h.symm))).trans s7
      clear hg hs gn B5 RO5 gz5 s6 s7
      go_wp2_with fail
      obtain ⟨W6, rfl⟩ : ∃ W, W = w6 := ⟨_, rfl⟩
      have s7 := t7
      clear t7
      have ro : W6.ownsRow 0 63 4 (.slice A7 p.1.flanks.length c7) p.1.flanks.length inner7 := Kn.own_move R7.out (fun b hb => B6.out.block b (T7.out b hb) (fun h => by rcases h with h | h; exact NW.out b (M7.out b (F7'.out b hb)) h; simp only [List.mem_append] at h; rcases h with ((((h | h) | h) | h) | h); exact A27.out b h (F7'.out b hb); exact A37.out b h (F7'.out b hb); exact A47.out b h (F7'.out b hb); exact A57.out b h (F7'.out b hb); exact A67.out b h (F7'.out b hb)))
      refine (markFlankS A7 p.1.flanks.length c7 (k6) _ inner7 ro (by omega) (by omega) (by omega)).mono ?_
      intro e w7 hr
      obtain ⟨k7, rfl, hk, _, hg, hs⟩ := RetMark.open hr
      have u7 : k6 ≤ k7 := by have := hk.out; omega
      have x7 : k7 ≤ k6 + 4 * (p.1.flanks.length : Int) := by have := hk.out; push_cast at this; omega
      clear hr hk ro
      have B7 : Hid (Keep (fun b => Wrote (some ⟨g, 0, none⟩) ps.length c ps j b ∨ b ∈ F2 ++ F3 ++ F4 ++ F5 ++ F6 ++ F7) w w7) := Lib.hid ((B6.out.mono (fun y _ h => by
        rcases h with h | h
        · exact .inl h
        · exact .inr (by simp only [List.mem_append] at h ⊢; exact .inl h))).grown hg (fun b hb _ => .inr (by have := F7'.out b hb; simp [this])))
      have gn : ¬ (Value.slice A7 p.1.flanks.length c7).ownBlock = some g := fun h => HGP.out g (M7.out g (F7'.out g h)) (by simp [Value.ownBlock])
      have RO7 := Lib.hid (Kn.own_move RO6.out (fun b hb => hg.block b (by have hb : g = b := (by simpa [Value.ownBlock] using hb); subst hb; exact gz6) (fun h => by have hb : g = b := (by simpa [Value.ownBlock] using hb); subst hb; exact gn h.symm)))
      have gz7 : g < w7.heap.size := by omega
      have HK2 : Hid (k7 ≤ k + 4 * (tot Route.n ((ps.map Prod.fst).take (j + 1)) : Nat) + 2 * (j + 1 : Nat)) := Lib.hid (by have := HK.out; rw [hxt]; push_cast; omega)
      have HW2 : Hid (∃ inn2, w7.ownsRow 0 57 8 (.slice (some ⟨g, 0, none⟩) ps.length c) ps.length inn2 ∧ ∀ i, 8 * (j + 1) ≤ i → inn2[i]? = inner[i]?) := Lib.hid ⟨_, RO7.out, fun i hi => by
        rw [List.getElem?_set_ne (by omega), List.getElem?_set_ne (by omega)]
        exact HSM.out i (by omega)⟩
      have HP2 : Hid (Keep (Wrote (some ⟨g, 0, none⟩) ps.length c ps (j + 1)) w w7) := Lib.hid (B7.out.mono (fun b _ h => by
        rcases h with (h | ⟨i, q, hi, hq, hb⟩) | h
        · exact .inl h
        · exact .inr ⟨i, q, by omega, hq, hb⟩
        · refine .inr ⟨j, p, by omega, HPP.out, ?_⟩
          simp only [List.mem_append] at h
          rcases h with ((((h | h) | h) | h) | h) | h
          · exact M2.out b h
          · exact M3.out b h
          · exact M4.out b h
          · exact M5.out b h
          · exact M6.out b h
          · exact M7.out b h
          ))
      have hkf : k ≤ k7 := by omega
      clear hg hs gn B7 RO7 s7
      go_wp2
      go_roundw
      case rel => exact ⟨j + 1, k7, by omega, by go_num, rfl, hkf, HK2, HW2, HP2⟩
      case measure => simp [intOf]; omega
    · obtain rfl : j = ps.length := by omega
      have hx2 := HTT.out ps.length
      have hkf : k' ≤ k + (4 * (ps.length + tot Route.n (ps.map Prod.fst)) : Nat) := by have := HK.out; push_cast; omega
      go_wp2
      go_ret
      refine ⟨k', rfl, hkl, hkf, HP.out.mono (fun b _ h => ?_)⟩
      rcases h with h | h
      · exact Kn.mem_foot_own h
      · exact List.mem_append_right _ (firsts_mem h)
end Go.Proofs.Ytginpmhjpjcahaa.L
