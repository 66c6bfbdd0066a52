/- The laws' markers and holders of tables. -/
import Derived.Test.YtginpmhjpjcahaaMark
import Derived.Test.YtginpmhjpjcahaaEqS
namespace Go.Proofs.Ytginpmhjpjcahaa.L
open Go.RowKit
set_option linter.unusedVariables false
set_option linter.unusedSimpArgs false
theorem tot_push {α : Type} (f : α → Nat) (xs : List α) (k : Nat) (x : α) (h : xs[k]? = some x) : tot f (xs.take (k + 1)) = tot f (xs.take k) + f x := tot_snoc f xs k x h
/-- Two elements' blocks are apart. -/
theorem items_apart {α : Type} : ∀ {ps : List (α × List Nat)} {i j : Nat} {p q : α × List Nat} {b : Nat}, ((ps.map Prod.snd).flatten).Nodup → ps[i]? = some p → ps[j]? = some q → i ≠ j → b ∈ p.2 → b ∈ q.2 → False
  | [], _, _, _, _, _, _, h, _, _, _, _ => by simp at h
  | a :: ps, 0, 0, _, _, _, _, _, _, hne, _, _ => hne rfl
  | a :: ps, 0, j + 1, p, q, b, hn, hp, hq, _, h1, h2 => by
    rw [List.map_cons, List.flatten_cons, List.nodup_append] at hn
    simp only [List.getElem?_cons_zero, Option.some.injEq] at hp
    subst hp
    rw [List.getElem?_cons_succ] at hq
    exact hn.2.2 b h1 b (List.mem_flatten.2 ⟨q.2, List.mem_map.2 ⟨q, List.mem_of_getElem? hq, rfl⟩, h2⟩) rfl
  | a :: ps, i + 1, 0, p, q, b, hn, hp, hq, _, h1, h2 => by
    rw [List.map_cons, List.flatten_cons, List.nodup_append] at hn
    simp only [List.getElem?_cons_zero, Option.some.injEq] at hq
    subst hq
    rw [List.getElem?_cons_succ] at hp
    exact hn.2.2 b h2 b (List.mem_flatten.2 ⟨p.2, List.mem_map.2 ⟨p, List.mem_of_getElem? hp, rfl⟩, h1⟩) rfl
  | a :: ps, i + 1, j + 1, p, q, b, hn, hp, hq, hne, h1, h2 => by
    rw [List.map_cons, List.flatten_cons, List.nodup_append] at hn
    rw [List.getElem?_cons_succ] at hp hq
    exact items_apart (ps := ps) hn.2.1 hp hq (fun e => hne (by rw [e])) h1 h2
/-- The blocks of the first m elements. -/
def Firsts {α : Type} (ps : List (α × List Nat)) (m b : Nat) : Prop := ∃ i p, i < m ∧ ps[i]? = some p ∧ b ∈ p.2
/-- The first m rows of a table are marked, one behind the other. -/
def MSS (w : World) (A : Option Addr) (ps : List (List Int × List Nat)) (k : Int) (m : Nat) : Prop :=
  ∀ (j : Nat) (p : List Int × List Nat), j < m → ps[j]? = some p → ∃ g B d, A = some ⟨g, 0, none⟩ ∧ w.cell? ⟨g, j, none⟩ = some (.slice B p.1.length d) ∧ g < w.heap.size ∧ Marked 3 1 B p.1.length d (k + (tot List.length ((ps.map Prod.fst).take j) : Nat)) p.1.length w ∧ (∀ b, (Value.slice B p.1.length d).ownBlock = some b → b ∈ p.2 ∧ b < w.heap.size)
theorem MSS.move {w w1 : World} {A : Option Addr} {ps : List (List Int × List Nat)} {k : Int} {m : Nat} {S : Nat → Prop} (h : MSS w A ps k m) (hk : Keep S w w1) (hA : ∀ g, A = some ⟨g, 0, none⟩ → ¬ S g) (hS : ∀ b, Firsts ps m b → ¬ S b) : MSS w1 A ps k m := by
  intro j p hj hp
  obtain ⟨g, B, d, hA', hc, hg, hm, hb⟩ := h j p hj hp
  exact ⟨g, B, d, hA', (hk.cell (p := ⟨g, j, none⟩) hg (hA g hA')).trans hc, Nat.lt_of_lt_of_le hg hk.size, hm.move (fun b h => hk.block b (hb b h).2 (hS b ⟨j, p, hj, hp, (hb b h).1⟩)), fun b h => ⟨(hb b h).1, Nat.lt_of_lt_of_le (hb b h).2 hk.size⟩⟩
theorem MSS.below {w w1 : World} {A : Option Addr} {ps : List (List Int × List Nat)} {k : Int} {m : Nat} (h : MSS w A ps k m) (hb : Below w.heap.size w w1) : MSS w1 A ps k m :=
  h.move (Keep.of_below (S := fun _ => False) hb) (fun _ _ h => h) (fun _ _ h => h)
def RetMSS (A : Option Addr) (ps : List (List Int × List Nat)) (k : Int) (w : World) (en : Ending) (w' : World) : Prop :=
  ∃ k' : Int, en = .returned (.int .i64 k') ∧ Hid (k' = k + (tot List.length (ps.map Prod.fst) : Nat)) ∧ Hid (MSS w' A ps k ps.length) ∧ Hid (Keep (fun b => b ∈ (ps.map Prod.snd).flatten) w w')
theorem firsts_mem {α : Type} {ps : List (α × List Nat)} {m b : Nat} (h : Firsts ps m b) : b ∈ (ps.map Prod.snd).flatten := by
  obtain ⟨i, p, _, hp, hb⟩ := h
  exact List.mem_flatten.2 ⟨p.2, List.mem_map.2 ⟨p, List.mem_of_getElem? hp, rfl⟩, hb⟩
set_option maxRecDepth 100000 in
set_option maxHeartbeats 4000000 in
theorem markIntSS (A : Option Addr) (c : Nat) (ps : List (List Int × List Nat)) (k : Int) (w : World) (hr : rowK.R 53 w (.slice A ps.length c) ps) (hn : ps.length ≤ 300) (hl : Hid (∀ p ∈ ps, p.1.length ≤ 300)) (h0 : 0 ≤ k) (h1 : k ≤ 1073741824) :
    Calls Try.prog 50 #[.slice A ps.length c, .int .i64 k] w (RetMSS A ps k w) := by
  have hlt := Lib.hid (Kn.R_lt hr)
  obtain ⟨inner, ho, hit, hnd⟩ := hr
  have HO := Lib.hid ho
  have HI := Lib.hid hit
  unfold Kn.foot at hnd
  rw [List.nodup_append] at hnd
  have ND := Lib.hid hnd
  clear ho hit hnd
  have htot : ∀ j, j ≤ ps.length → tot List.length ((ps.map Prod.fst).take j) ≤ 300 * j := by
    intro j
    induction j with
    | zero => exact fun _ => by simp [tot]
    | succ j ih =>
      intro hj
      have ih := ih (by omega)
      have hx : (ps.map Prod.fst)[j]? = some (ps[j]'(by omega)).1 := by rw [List.getElem?_map, List.getElem?_eq_getElem (by omega)]; rfl
      rw [tot_push _ _ _ _ hx]
      have := hl.out _ (List.getElem_mem (by omega : j < ps.length))
      omega
  have HTT := Lib.hid htot
  clear htot
  go_enter Try.func50, Try.ntmps50
  go_wp2
  go_loopw [1, 5] (fun kk i wr => ∃ (j : Nat) (k' : Int), j ≤ ps.length ∧ i = .int .i64 j ∧ kk = .int .i64 k' ∧ Hid (k' = k + (tot List.length ((ps.map Prod.fst).take j) : Nat)) ∧ Hid (MSS wr A ps k j) ∧ Hid (Keep (Firsts ps j) w wr)) (fun _ i _ => ps.length - (intOf i).toNat)
  case atStart => exact ⟨0, k, Nat.zero_le _, rfl, rfl, Lib.hid (by simp [tot]), Lib.hid (fun j p h => absurd h (by omega)), Lib.hid (Keep.refl _ _)⟩
  case round =>
    obtain ⟨j, k', hj, rfl, rfl, HK, HM, HP⟩ := hrel
    have hkb : 0 ≤ k' ∧ k' ≤ k + 90000 := by have := HK.out; have := HTT.out j hj; omega
    by_cases hlt' : j < ps.length
    · obtain ⟨p, hp⟩ : ∃ p, ps[j]? = some p := ⟨_, List.getElem?_eq_getElem hlt'⟩
      have hO := HI.out j p hp
      have i0 : (0 : Int) ≤ (j : Int) := Int.natCast_nonneg _
      have i1 : (j : Int) < (ps.length : Int) := by omega
      have hpl := hl.out p (List.mem_of_getElem? hp)
      obtain ⟨g, hA, hcell⟩ : ∃ g, A = some ⟨g, 0, none⟩ ∧ g < w.heap.size := by
        rcases HO.out.2 with ⟨he, h2⟩ | ⟨g, cap, cur, he, _, hh, _, _, _⟩
        · omega
        · injection he with he _ _
          exact ⟨g, he, lt_of_get hh⟩
      subst hA
      obtain ⟨v, hv, hcv⟩ : ∃ v, ((inner.drop (j * rowK.sz)).take rowK.sz) = [v] ∧ w.cell? ⟨g, j, none⟩ = some v := by
        have hlen : j < inner.length := by have := HO.out.1; rw [this]; show j < ps.length * 1; omega
        refine ⟨inner[j], ?_, ?_⟩
        · show (inner.drop (j * 1)).take 1 = _
          rw [Nat.mul_one, List.drop_eq_getElem_cons hlen]
          rfl
        · rw [HO.out.cellAt _ (by show j < ps.length * 1; omega)]
          exact List.getElem?_eq_getElem hlen
      rw [hv] at hO
      have hfp : ∀ b, b ∈ p.2 → ¬ Firsts ps j b := fun b hb ⟨i, q, hi, hq, hbq⟩ => items_apart ND.out.2.1 hq hp (by omega) hbq hb
      have hgo : g ∈ (Value.slice (some ⟨g, 0, none⟩) ps.length c).ownBlock.toList := by simp [Value.ownBlock]
      have hgn : ¬ Firsts ps j g := fun h => ND.out.2.2 g hgo g (firsts_mem h) rfl
      have hgp : ¬ g ∈ p.2 := fun h => ND.out.2.2 g hgo g (List.mem_flatten.2 ⟨p.2, List.mem_map.2 ⟨p, List.mem_of_getElem? hp, rfl⟩, h⟩) rfl
      have hO := rowK.O_move (fun b hb => HP.out.block b (hlt.out b (Kn.mem_foot_item hp hb)) (hfp b hb)) hO
      have hblt := rowK.O_lt hO
      obtain ⟨B, d, he2, _, _⟩ := rowK.K_of hO
      injection he2 with he2 _
      subst he2
      obtain ⟨inr, ro, rf⟩ := O_row hO
      have cc : wr.cell? ⟨g, j, none⟩ = some (.slice B p.1.length d) := (HP.out.cell (p := ⟨g, j, none⟩) hcell hgn).trans hcv
      have RF := Lib.hid rf
      have BL := Lib.hid hblt
      have HFP := Lib.hid hfp
      have HGN := Lib.hid hgn
      have HGP := Lib.hid hgp
      have HPP := Lib.hid hp
      have GL : g < wr.heap.size := Nat.lt_of_lt_of_le hcell HP.out.size
      clear rf hblt hfp hgn hgp hO hcv hv hgo hp
      go_wp2_with fail
      refine (markIntS B p.1.length d k' _ inr ro (by omega) hkb.1 (by omega)).mono ?_
      intro e w2 hr
      obtain ⟨k2, rfl, hk2, M2, G2, S2⟩ := RetMark.open hr
      have HK2 : Hid (k2 = k + (tot List.length ((ps.map Prod.fst).take (j + 1)) : Nat)) := Lib.hid (by
        rw [tot_push _ _ _ p.1 (by rw [List.getElem?_map, HPP.out]; rfl), hk2.out, HK.out]
        push_cast
        omega)
      have KP : Keep (fun b => (Value.slice B p.1.length d).ownBlock = some b) wr w2 := (Keep.refl _ _).grown G2 (fun b h _ => h)
      have HM2 : Hid (MSS w2 (some ⟨g, 0, none⟩) ps k (j + 1)) := Lib.hid (by
        have hm0 := HM.out.move KP (fun g' hg' h => by injection hg' with hg'; injection hg' with hg' _ _; subst hg'; exact HGP.out (RF.out _ h)) (fun b hb h => HFP.out b (RF.out b h) hb)
        intro i q hi hq
        by_cases hij : i = j
        · subst hij
          have := HPP.out.symm.trans hq
          obtain rfl := Option.some.inj this
          refine ⟨g, B, d, rfl, (KP.cell (p := ⟨g, i, none⟩) GL (fun h => HGP.out (RF.out _ h))).trans cc, Nat.lt_of_lt_of_le GL KP.size, ?_, fun b h => ⟨RF.out b h, Nat.lt_of_lt_of_le (BL.out b (RF.out b h)) KP.size⟩⟩
          have hm := M2.out
          rw [HK.out, Nat.one_mul] at hm
          exact hm
        · exact hm0 i q (by omega) hq)
      have HP2 : Hid (Keep (Firsts ps (j + 1)) w w2) := Lib.hid ((HP.out.mono (fun b _ ⟨i, q, hi, hq, hb⟩ => ⟨i, q, by omega, hq, hb⟩)).trans KP (fun b _ h => ⟨j, p, by omega, HPP.out, RF.out b h⟩))
      clear hr hk2 M2 G2 S2 KP HK HM HP cc ro
      go_wp2
      go_roundw
      case rel => exact ⟨j + 1, k2, by omega, by go_num, rfl, HK2, HM2, HP2⟩
      case measure => simp [intOf]; omega
    · obtain rfl : j = ps.length := by omega
      have HK2 : Hid (k' = k + (tot List.length (ps.map Prod.fst) : Nat)) := Lib.hid (by have := HK.out; rwa [List.take_of_length_le (by rw [List.length_map]; omega)] at this)
      go_wp2
      go_ret
      exact ⟨k', rfl, HK2, HM, Lib.hid (HP.out.mono (fun b _ h => firsts_mem h))⟩
set_option maxRecDepth 100000 in
set_option maxHeartbeats 4000000 in
theorem heldIntSS (A : Option Addr) (c : Nat) (ps : List (List Int × List Nat)) (k : Int) (w : World) (hm : MSS w A ps k ps.length) (hn : ps.length ≤ 300) (hl : Hid (∀ p ∈ ps, p.1.length ≤ 300)) (h0 : 0 ≤ k) (h1 : k ≤ 1073741824) :
    Calls Try.prog 51 #[.slice A ps.length c, .int .i64 k] w (RetI0 (k + (tot List.length (ps.map Prod.fst) : Nat)) w) := by
  have HM := Lib.hid hm
  clear hm
  have htot : ∀ j, j ≤ ps.length → tot List.length ((ps.map Prod.fst).take j) ≤ 300 * j := by
    intro j
    induction j with
    | zero => exact fun _ => by simp [tot]
    | succ j ih =>
      intro hj
      have ih := ih (by omega)
      have hx : (ps.map Prod.fst)[j]? = some (ps[j]'(by omega)).1 := by rw [List.getElem?_map, List.getElem?_eq_getElem (by omega)]; rfl
      rw [tot_push _ _ _ _ hx]
      have := hl.out _ (List.getElem_mem (by omega : j < ps.length))
      omega
  have HTT := Lib.hid htot
  clear htot
  go_enter Try.func51, Try.ntmps51
  go_wp2
  go_loopw [1, 5] (fun kk i wr => ∃ (j : Nat) (k' : Int), j ≤ ps.length ∧ i = .int .i64 j ∧ kk = .int .i64 k' ∧ Hid (k' = k + (tot List.length ((ps.map Prod.fst).take j) : Nat)) ∧ wr = w) (fun _ i _ => ps.length - (intOf i).toNat)
  case atStart => exact ⟨0, k, Nat.zero_le _, rfl, rfl, Lib.hid (by simp [tot]), rfl⟩
  case round =>
    obtain ⟨j, k', hj, rfl, rfl, HK, rfl⟩ := hrel
    have hkb : 0 ≤ k' ∧ k' ≤ k + 90000 := by have := HK.out; have := HTT.out j hj; omega
    by_cases hlt' : j < ps.length
    · obtain ⟨p, hp⟩ : ∃ p, ps[j]? = some p := ⟨_, List.getElem?_eq_getElem hlt'⟩
      have HPP := Lib.hid hp
      have i0 : (0 : Int) ≤ (j : Int) := Int.natCast_nonneg _
      have i1 : (j : Int) < (ps.length : Int) := by omega
      have hpl := hl.out p (List.mem_of_getElem? hp)
      obtain ⟨g, B, d, rfl, cc, hg, hmk, _⟩ := HM.out j p hlt' hp
      have HMK : Hid (Marked 3 1 B p.1.length d k' (1 * p.1.length) wr) := Lib.hid (by rw [HK.out, Nat.one_mul]; exact hmk)
      clear hmk hp
      have HK2 : Hid (k' + (1 * p.1.length : Nat) = k + (tot List.length ((ps.map Prod.fst).take (j + 1)) : Nat)) := Lib.hid (by
        rw [tot_push _ _ _ p.1 (by rw [List.getElem?_map, HPP.out]; rfl), HK.out]
        push_cast
        omega)
      obtain ⟨k2, hk2⟩ : ∃ k2 : Int, Hid (k' + (1 * p.1.length : Nat) = k2) := ⟨_, Lib.hid rfl⟩
      have hk2b : 0 ≤ k2 := by have := hk2.out; omega
      have dk : decide (k2 < 0) = false := decide_eq_false (by omega)
      go_wp2_with fail
      refine (heldIntS B p.1.length d k' _ HMK.out (by omega) hkb.1 (by omega)).mono ?_
      rintro e w2 ⟨rfl, rfl⟩
      rw [hk2.out]
      have HK3 : Hid (k2 = k + (tot List.length ((ps.map Prod.fst).take (j + 1)) : Nat)) := Lib.hid (by rw [← hk2.out]; exact HK2.out)
      clear HK2 hk2
      go_wp2
      go_roundw
      case rel => exact ⟨j + 1, k2, by omega, by go_num, rfl, HK3, by first | rfl | trivial⟩
      case measure => simp [intOf]; omega
    · obtain rfl : j = ps.length := by omega
      have HK2 : Hid (k' = k + (tot List.length (ps.map Prod.fst) : Nat)) := Lib.hid (by have := HK.out; rwa [List.take_of_length_le (by rw [List.length_map]; omega)] at this)
      go_wp2
      go_ret
      exact ⟨by rw [HK2.out]; rfl, rfl⟩
end Go.Proofs.Ytginpmhjpjcahaa.L
