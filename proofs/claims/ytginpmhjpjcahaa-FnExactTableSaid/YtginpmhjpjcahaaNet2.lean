/- Chapter 1 of the reference: uses, joints, NetOk. -/
import Derived.Test.YtginpmhjpjcahaaNet
namespace Go.Proofs.Ytginpmhjpjcahaa.L
open Go.RowKit
set_option linter.unusedVariables false
set_option linter.unusedSimpArgs false
theorem uses_snoc (js : List Joint) (e : End) (k : Nat) (x : Joint) (h : js[k]? = some x) : uses (js.take (k + 1)) e = uses (js.take k) e + usesIn x.ends e := tot_snoc _ _ _ _ h
theorem usesIn_snoc (es : List End) (e : End) (k : Nat) (x : End) (h : es[k]? = some x) : usesIn (es.take (k + 1)) e = usesIn (es.take k) e + (if eqv x e = true then 1 else 0) := tot_snoc _ _ _ _ h
theorem uses_le (js : List Joint) (e : End) (k : Nat) : uses (js.take k) e ≤ uses js e := tot_le _ _ _
theorem usesIn_le (es : List End) (e : End) (k : Nat) : usesIn (es.take k) e ≤ usesIn es e := tot_le _ _ _
set_option maxRecDepth 100000 in
set_option maxHeartbeats 2000000 in
theorem l1uses {ok : Nat → Prop} (A0 A1 : Option Addr) (n0 c0 c1 : Nat) (js : List Joint) (x : End) (w : World) (hj : (jointK 118).C w ok A1 js) (hu : Hid (uses js x ≤ 1048576)) :
    Calls Try.prog 66 #[.agg #[.slice A0 n0 c0, .slice A1 js.length c1], x.v] w (RetI (uses js x) w) := by
  have hm := hj.1
  obtain ⟨p, q⟩ := x
  go_enter Try.func66, Try.ntmps66
  go_wp2
  obtain ⟨W0, hW0, hB0, f0, f1, f2, f3, hs0, hs1⟩ : ∃ W0, W0 = (w.alloc (.cells #[.slice A0 n0 c0, .slice A1 js.length c1] 34)).alloc (.cells #[.int .i64 p, .int .i64 q] 118) ∧ Below w.heap.size w W0 ∧
      W0.cell? ⟨w.heap.size, 0, none⟩ = some (.slice A0 n0 c0) ∧ W0.cell? ⟨w.heap.size, 1, none⟩ = some (.slice A1 js.length c1) ∧ W0.cell? ⟨w.heap.size + 1, 0, none⟩ = some (.int .i64 p) ∧ W0.cell? ⟨w.heap.size + 1, 1, none⟩ = some (.int .i64 q) ∧
      w.heap.size < W0.heap.size ∧ w.heap.size + 1 < W0.heap.size := ⟨_, rfl, (below_alloc _ _).alloc (by simp) _, by simp, by simp, by simp, by simp, by simp; omega, by simp⟩
  rw [← hW0]
  clear hW0
  go_loopw [5, 13] (fun c i wr => ∃ (k cn : Nat), k ≤ js.length ∧ i = .int .i64 k ∧ c = .int .i64 cn ∧ Hid (cn = uses (js.take k) ⟨p, q⟩) ∧ Below W0.heap.size W0 wr) (fun _ i _ => js.length - (intOf i).toNat)
  case atStart => exact ⟨0, 0, Nat.zero_le _, rfl, rfl, Lib.hid rfl, Below.refl _ _⟩
  case round =>
    obtain ⟨k, cn, hk, rfl, rfl, HC, hb⟩ := hrel
    have hbw := hB0.trans (hb.mono hB0.size)
    by_cases hlt : k < js.length
    · obtain ⟨a0, rfl, y, E, A2, c2, g0, g1, g2, l2, q2⟩ := jointK_at (Kn.C_below hbw hj) k hlt
      obtain ⟨hc, hf⟩ := bcell hb
      have i0 : (0 : Int) ≤ (k : Int) := Int.natCast_nonneg _
      have i1 : (k : Int) < (js.length : Int) := by omega
      have hm2 := q2.1
      have HU : Hid (uses (js.take (k + 1)) ⟨p, q⟩ = cn + usesIn y.ends ⟨p, q⟩) := Lib.hid (by rw [uses_snoc _ _ _ _ E.out, HC.out])
      have hcn : cn + usesIn y.ends ⟨p, q⟩ ≤ 1048576 := by have h1 := uses_le js ⟨p, q⟩ (k + 1); have h2 := HU.out; have h3 := hu.out; omega
      obtain ⟨wo, rfl⟩ : ∃ wo : World, wo = wr := ⟨_, rfl⟩
      go_wp2
      go_loopw [5, 20] (fun c i wi => ∃ (m cm : Nat), m ≤ y.ends.length ∧ i = .int .i64 m ∧ c = .int .i64 cm ∧ cm ≤ 1048576 ∧ Hid (cm = cn + usesIn (y.ends.take m) ⟨p, q⟩) ∧ Below wo.heap.size wo wi) (fun _ i _ => y.ends.length - (intOf i).toNat)
      case atStart => exact ⟨0, cn, Nat.zero_le _, rfl, rfl, by omega, Lib.hid rfl, below_alloc _ _⟩
      case round =>
        obtain ⟨m, cm, hmk, rfl, rfl, hcm, HM, hbi⟩ := hrel
        obtain ⟨hci, hfi⟩ := bcell (hb.trans (hbi.mono hb.size))
        have hs2 : w.heap.size < wr.heap.size := by have := hb.size; have := hbi.size; omega
        have hs3 : w.heap.size + 1 < wr.heap.size := by have := hb.size; have := hbi.size; omega
        have hs4 : wo.heap.size ≤ wr.heap.size := hbi.size
        by_cases hlm : m < y.ends.length
        · obtain ⟨a1, rfl, p1, q1, E1, g3, g4⟩ := endK_at (Kn.C_below hbi q2) m hlm
          have j0 : (0 : Int) ≤ (m : Int) := Int.natCast_nonneg _
          have j1 : (m : Int) < (y.ends.length : Int) := by omega
          have HU1 : Hid (usesIn (y.ends.take (m + 1)) ⟨p, q⟩ = usesIn (y.ends.take m) ⟨p, q⟩ + (if eqv (⟨p1, q1⟩ : End) ⟨p, q⟩ = true then 1 else 0)) := Lib.hid (usesIn_snoc _ _ _ _ E1.out)
          have hle : Hid (cn + usesIn (y.ends.take (m + 1)) ⟨p, q⟩ ≤ 1048576) := Lib.hid (by have := usesIn_le y.ends ⟨p, q⟩ (m + 1); omega)
          by_cases he : p1 = p
          · subst he
            by_cases he2 : q1 = q
            · subst he2
              have hcm2 : cm + 1 ≤ 1048576 := by have h1 := HU1.out; rw [if_pos (eqv_self _)] at h1; have h2 := hle.out; have h3 := HM.out; omega
              have HN : Hid (cm + 1 = cn + usesIn (y.ends.take (m + 1)) ⟨p1, q1⟩) := Lib.hid (by rw [HU1.out, if_pos (eqv_self _), HM.out]; omega)
              go_wp2
              go_roundw
              case rel => exact ⟨m + 1, cm + 1, by omega, by go_num, by go_num, hcm2, HN, hbi.trans ((below_alloc _ _).mono hbi.size)⟩
              case measure => simp [intOf]; omega
            · have HN : Hid (cm = cn + usesIn (y.ends.take (m + 1)) ⟨p1, q⟩) := Lib.hid (by rw [HU1.out, if_neg (by rw [eqv_false (by intro h; injection h; exact he2 ‹_›)]; simp), HM.out]; rfl)
              have hq : (q1 == q) = false := by simpa using he2
              clear he2
              go_wp2
              go_roundw
              case rel => exact ⟨m + 1, cm, by omega, by go_num, rfl, hcm, HN, hbi.trans ((below_alloc _ _).mono hbi.size)⟩
              case measure => simp [intOf]; omega
          · have HN : Hid (cm = cn + usesIn (y.ends.take (m + 1)) ⟨p, q⟩) := Lib.hid (by rw [HU1.out, if_neg (by rw [eqv_false (by intro h; injection h; exact he ‹_›)]; simp), HM.out]; rfl)
            have hq : (p1 == p) = false := by simpa using he
            clear he
            go_wp2
            go_roundw
            case rel => exact ⟨m + 1, cm, by omega, by go_num, rfl, hcm, HN, hbi.trans ((below_alloc _ _).mono hbi.size)⟩
            case measure => simp [intOf]; omega
        · have hge : y.ends.length ≤ m := by omega
          have HN : Hid (cm = uses (js.take (k + 1)) ⟨p, q⟩) := Lib.hid (by rw [HU.out, HM.out, List.take_of_length_le hge])
          go_wp2
          go_roundw
          case rel => exact ⟨k + 1, cm, by omega, by go_num, rfl, HN, hb.trans (hbi.mono hb.size)⟩
          case measure => simp [intOf]; omega
    · have hge : js.length ≤ k := by omega
      have HN : Hid (cn = uses js ⟨p, q⟩) := Lib.hid (by rw [HC.out, List.take_of_length_le hge])
      go_wp2
      go_ret
      exact ⟨by rw [← HN.out]; rfl, hbw⟩
/-- What l1joint answers of joint k, x. -/
noncomputable def jcode (n0 : Nat) (js : List Joint) (k : Nat) (x : Joint) : Int :=
  @ite _ (jointP n0 x) (Classical.propDecidable _) (@ite _ (nameBad js k x) (Classical.propDecidable _) 4 0) 3
theorem jcode_3 {n0 : Nat} {js : List Joint} {k : Nat} {x : Joint} (h : ¬ jointP n0 x) : jcode n0 js k x = 3 := by unfold jcode; rw [if_neg h]
theorem jcode_4 {n0 : Nat} {js : List Joint} {k : Nat} {x : Joint} (h : jointP n0 x) (hb : nameBad js k x) : jcode n0 js k x = 4 := by unfold jcode; rw [if_pos h, if_pos hb]
theorem jcode_0 {n0 : Nat} {js : List Joint} {k : Nat} {x : Joint} (h : jointP n0 x) (hb : ¬ nameBad js k x) : jcode n0 js k x = 0 := by unfold jcode; rw [if_pos h, if_neg hb]
theorem str_empty {s : ByteArray} (h : s = ⟨#[]⟩) : s.toList.isEmpty = true ∧ (!s.toList.isEmpty) = false := by
  have : s.toList.isEmpty = true := by subst h; rw [Go.ByteArray.toList_eq]; rfl
  exact ⟨this, by rw [this]; rfl⟩
theorem str_full {s : ByteArray} (h : ¬ s = ⟨#[]⟩) : s.toList.isEmpty = false ∧ (!s.toList.isEmpty) = true := by
  have : s.toList.isEmpty = false := by
    cases he : s.toList.isEmpty
    · rfl
    · rw [Go.ByteArray.toList_eq, List.isEmpty_iff] at he
      exact absurd (WideShapes.bytes_inj (b := ⟨#[]⟩) (by rw [he])) h
  exact ⟨this, by rw [this]; rfl⟩
theorem str_beq {a b : ByteArray} (h : a = b) : (a.toList == b.toList) = true := by rw [h]; exact beq_self_eq_true _
theorem ends_snoc {n0 : Nat} {es : List End} {m : Nat} {e : End} (h : ∀ j e, j < m → es[j]? = some e → endP n0 e) (hm : es[m]? = some e) (he : endP n0 e) : ∀ j e, j < m + 1 → es[j]? = some e → endP n0 e := fun j e' hj hje => by
  by_cases hjm : j = m
  · subst hjm
    rw [hm] at hje
    obtain rfl := Option.some.inj hje
    exact he
  · exact h j e' (by omega) hje
theorem names_at {js : List Joint} {j : Nat} {y : Joint} (h : js[j]? = some y) : (js.map Joint.name)[j]? = some y.name := by rw [List.getElem?_map, h]; rfl
theorem same_snoc {ns : List ByteArray} {m : Nat} {s a : ByteArray} (h : ¬ sameName ns m s) (hm : ns[m]? = some a) (ha : ¬ a = s) : ¬ sameName ns (m + 1) s := fun ⟨j, hj, hs⟩ => by
  by_cases hjm : j = m
  · subst hjm
    rw [hm] at hs
    exact ha (Option.some.inj hs)
  · exact h ⟨j, by omega, hs⟩
theorem same_zero {ns : List ByteArray} {s : ByteArray} : ¬ sameName ns 0 s := fun ⟨j, hj, _⟩ => by omega
set_option maxRecDepth 100000 in
set_option maxHeartbeats 4000000 in
theorem l1joint {ok : Nat → Prop} (A0 A1 : Option Addr) (n0 c0 c1 : Nat) (js : List Joint) (k : Nat) (x : Joint) (w : World) (hj : (jointK 118).C w ok A1 js) (hx : js[k]? = some x) (hn : n0 ≤ 9223372036854775807) (hfit : Hid (∀ j ∈ js, j.fit)) :
    Calls Try.prog 65 #[.agg #[.slice A0 n0 c0, .slice A1 js.length c1], .int .i64 k] w (RetI (jcode n0 js k x) w) := by
  have hm := hj.1
  have hlt := (List.getElem?_eq_some_iff.1 hx).1
  obtain ⟨a0, rfl, y, E, A2, c2, g0, g1, g2, l2, q2⟩ := jointK_at hj k hlt
  obtain rfl : y = x := Option.some.inj (E.out.symm.trans hx)
  clear hx
  have hbk := World.block_lt_of_cell? w _ g0
  have i0 : (0 : Int) ≤ (k : Int) := Int.natCast_nonneg _
  have i1 : (k : Int) < (js.length : Int) := by omega
  have hm2 := q2.1
  have hys : y.name.size ≤ 9223372036854775807 := hfit.out _ (mem_of_get E.out)
  by_cases c1 : 1 ≤ y.kind ∧ y.kind ≤ 4
  rotate_left
  · have HN : Hid (jcode n0 js k y = 3) := Lib.hid (jcode_3 (fun h => c1 h.1))
    have d1 : Hid (decide (1 ≤ y.kind ∧ y.kind ≤ 4) = false) := Lib.hid (decide_eq_false c1)
    clear c1
    go_enter Try.func65, Try.ntmps65
    go_wp2_with fail
    refine (l1in _ _ _ _).mono ?_
    rintro e w1 ⟨rfl, rfl⟩
    rw [d1.out]
    go_wp2
    go_ret
    exact ⟨by rw [HN.out]; rfl, (below_alloc _ _).alloc (by simp) _⟩
  have d1 : Hid (decide (1 ≤ y.kind ∧ y.kind ≤ 4) = true) := Lib.hid (decide_eq_true c1)
  have C1 := Lib.hid c1
  clear c1
  by_cases c2 : (y.ends.length : Int) = y.kind
  rotate_left
  · have HN : Hid (jcode n0 js k y = 3) := Lib.hid (jcode_3 (fun h => c2 h.2.1))
    have d2 : ((y.ends.length : Int) != y.kind) = true := int_ne c2
    clear c2
    go_enter Try.func65, Try.ntmps65
    go_wp2_with fail
    refine (l1in _ _ _ _).mono ?_
    rintro e w1 ⟨rfl, rfl⟩
    rw [d1.out]
    go_wp2
    go_ret
    exact ⟨by rw [HN.out]; rfl, (below_alloc _ _).alloc (by simp) _⟩
  have d2 : ((y.ends.length : Int) != y.kind) = false := by rw [c2]; simp
  have C2 := Lib.hid c2
  clear c2
  go_enter Try.func65, Try.ntmps65
  go_wp2_with fail
  refine (l1in _ _ _ _).mono ?_
  rintro e w1 ⟨rfl, rfl⟩
  rw [d1.out]
  go_wp2
  obtain ⟨W0, hW0, hB0, f0, f1, f2, f3, f4, hs0, hs1⟩ : ∃ W0, W0 = (w.alloc (.cells #[.slice A0 n0 c0, .slice (some a0) js.length c1] 34)).alloc (.cells #[.int .i64 y.kind, .string y.name, .slice A2 y.ends.length c2] 125) ∧ Below w.heap.size w W0 ∧
      W0.cell? ⟨w.heap.size, 0, none⟩ = some (.slice A0 n0 c0) ∧ W0.cell? ⟨w.heap.size, 1, none⟩ = some (.slice (some a0) js.length c1) ∧ W0.cell? ⟨w.heap.size + 1, 0, none⟩ = some (.int .i64 y.kind) ∧ W0.cell? ⟨w.heap.size + 1, 1, none⟩ = some (.string y.name) ∧
      W0.cell? ⟨w.heap.size + 1, 2, none⟩ = some (.slice A2 y.ends.length c2) ∧ w.heap.size < W0.heap.size ∧ w.heap.size + 1 < W0.heap.size := ⟨_, rfl, (below_alloc _ _).alloc (by simp) _, by simp, by simp, by simp, by simp, by simp, by simp; omega, by simp⟩
  rw [← hW0]
  clear hW0
  go_loopw [29] (fun i wr => ∃ m : Nat, m ≤ y.ends.length ∧ i = .int .i64 m ∧ Hid (∀ j e, j < m → y.ends[j]? = some e → endP n0 e) ∧ Below W0.heap.size W0 wr) (fun i _ => y.ends.length - (intOf i).toNat)
  case atStart => exact ⟨0, Nat.zero_le _, rfl, Lib.hid (fun j e h => absurd h (by omega)), Below.refl _ _⟩
  case round =>
    obtain ⟨m, hmk, rfl, HM, hb⟩ := hrel
    obtain ⟨hc, hf⟩ := bcell hb
    have hs2 : w.heap.size < wr.heap.size := by have := hb.size; omega
    have hs3 : w.heap.size + 1 < wr.heap.size := by have := hb.size; omega
    have hbw := hB0.trans (hb.mono hB0.size)
    by_cases hlm : m < y.ends.length
    · obtain ⟨a1, rfl, p1, q1, E1, g3, g4⟩ := endK_at (Kn.C_below hbw q2) m hlm
      have j0 : (0 : Int) ≤ (m : Int) := Int.natCast_nonneg _
      have j1 : (m : Int) < (y.ends.length : Int) := by omega
      by_cases he : endP n0 ⟨p1, q1⟩
      · have HE : Hid (pv (endP n0 ⟨p1, q1⟩) = true) := Lib.hid (pv_true he)
        have HN := Lib.hid (ends_snoc HM.out E1.out he)
        clear he
        go_wp2_with fail
        refine (l1end _ _ _ _ _ _ ⟨p1, q1⟩ _ hn).mono ?_
        rintro e w1 ⟨rfl, hb1⟩
        rw [HE.out]
        go_wp2
        go_roundw
        case rel => exact ⟨m + 1, by omega, by go_num, HN, hb.trans (((below_alloc _ _).trans (hb1.mono (by simp))).mono hb.size)⟩
        case measure => simp [intOf]; omega
      · have HE : Hid (pv (endP n0 ⟨p1, q1⟩) = false) := Lib.hid (pv_false he)
        have HN : Hid (jcode n0 js k y = 3) := Lib.hid (jcode_3 (fun h => he (h.2.2 _ (mem_of_get E1.out))))
        clear he
        go_wp2_with fail
        refine (l1end _ _ _ _ _ _ ⟨p1, q1⟩ _ hn).mono ?_
        rintro e w1 ⟨rfl, hb1⟩
        rw [HE.out]
        go_wp2
        go_ret
        exact ⟨by rw [HN.out]; rfl, hbw.trans (((below_alloc _ _).trans (hb1.mono (by simp))).mono hbw.size)⟩
    · have hge : y.ends.length ≤ m := by omega
      have HJ : Hid (jointP n0 y) := Lib.hid ⟨C1.out, C2.out, fun e he => by
        obtain ⟨j, hj⟩ := List.mem_iff_getElem?.1 he
        exact HM.out j e (by have := (List.getElem?_eq_some_iff.1 hj).1; omega) hj⟩
      by_cases c3 : y.kind < 3
      · by_cases c4 : y.name = ⟨#[]⟩
        · have HN : Hid (jcode n0 js k y = 0) := Lib.hid (jcode_0 HJ.out (fun h => by rcases h with h | h; exact h.2 c4; omega))
          obtain ⟨d4, d5⟩ := str_empty c4
          clear c4
          go_wp2
          go_ret
          exact ⟨by rw [HN.out]; rfl, hbw⟩
        · have HN : Hid (jcode n0 js k y = 4) := Lib.hid (jcode_4 HJ.out (.inl ⟨c3, c4⟩))
          obtain ⟨d4, d5⟩ := str_full c4
          clear c4
          go_wp2
          go_ret
          exact ⟨by rw [HN.out]; rfl, hbw⟩
      · have c3' : 3 ≤ y.kind := by omega
        by_cases c4 : nameP y.name
        rotate_left
        · have HN : Hid (jcode n0 js k y = 4) := Lib.hid (jcode_4 HJ.out (.inr ⟨c3', .inl c4⟩))
          have HE : Hid (pv (nameP y.name) = false) := Lib.hid (pv_false c4)
          clear c4
          go_wp2_with fail
          refine (l1name _ _ hys).mono ?_
          rintro e w1 ⟨rfl, rfl⟩
          rw [HE.out]
          go_wp2
          go_ret
          exact ⟨by rw [HN.out]; rfl, hbw⟩
        have HE : Hid (pv (nameP y.name) = true) := Lib.hid (pv_true c4)
        have C4 := Lib.hid c4
        clear c4
        go_wp2_with fail
        refine (l1name _ _ hys).mono ?_
        rintro e w1 ⟨rfl, rfl⟩
        rw [HE.out]
        go_wp2
        go_loopw [8] (fun i wi => ∃ m : Nat, m ≤ k ∧ i = .int .i64 m ∧ Hid (¬ sameName (js.map Joint.name) m y.name) ∧ Below wr.heap.size wr wi) (fun i _ => k - (intOf i).toNat)
        case atStart => exact ⟨0, Nat.zero_le _, rfl, Lib.hid same_zero, Below.refl _ _⟩
        case round =>
          obtain ⟨m2, hmk2, rfl, HM2, hbi⟩ := hrel
          obtain ⟨hci, hfi⟩ := bcell (hb.trans (hbi.mono hb.size))
          have hs4 : w.heap.size < wr.heap.size := by have := hbi.size; omega
          have hbw2 := hbw.trans (hbi.mono hbw.size)
          by_cases hlm2 : m2 < k
          · obtain ⟨a1, ha1, z, E2, A3, c3, g3, g4, g5, l5, q5⟩ := jointK_at (Kn.C_below hbw2 hj) m2 (by omega)
            obtain rfl := Option.some.inj ha1
            have j0 : (0 : Int) ≤ (m2 : Int) := Int.natCast_nonneg _
            have j1 : (m2 : Int) < (js.length : Int) := by omega
            have j2 : (m2 : Int) < (k : Int) := by omega
            by_cases he : z.name = y.name
            · have HN : Hid (jcode n0 js k y = 4) := Lib.hid (jcode_4 HJ.out (.inr ⟨c3', .inr ⟨m2, hlm2, by rw [names_at E2.out, he]⟩⟩))
              have HE := str_beq he
              clear he
              go_wp2
              go_quiet (fail)
              go_wp2
              go_ret
              exact ⟨by rw [HN.out]; rfl, below_drewN hbw2 _⟩
            · have HN := Lib.hid (same_snoc HM2.out (names_at E2.out) he)
              have HE := str_ne he
              clear he
              go_wp2
              go_quiet (fail)
              go_wp2
              go_roundw
              case rel => exact ⟨m2 + 1, by omega, by go_num, HN, below_drewN hbi _⟩
              case measure => simp [intOf]; omega
          · have hge2 : k ≤ m2 := by omega
            have HN : Hid (jcode n0 js k y = 0) := Lib.hid (jcode_0 HJ.out (fun h => by
              rcases h with h | ⟨_, h | ⟨j, hj, hs⟩⟩
              · omega
              · exact h C4.out
              · exact HM2.out ⟨j, by omega, hs⟩))
            go_wp2
            go_ret
            exact ⟨by rw [HN.out]; rfl, hbw2⟩
end Go.Proofs.Ytginpmhjpjcahaa.L
