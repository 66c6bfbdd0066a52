/- The laws' copiers: what they hand back is new memory that is the same value. -/
import Derived.Test.YtginpmhjpjcahaaEq
namespace Go.Proofs.Ytginpmhjpjcahaa.L
open Go.RowKit
set_option linter.unusedVariables false
set_option linter.unusedSimpArgs false
/-- A call that answers a value and lets all that was there as it was. -/
def RetV (v : Value) (w : World) (e : Ending) (w' : World) : Prop := e = .returned v ∧ Below w.heap.size w w'
/-- What the walk knows of a row while it is filled: its block g, the first k elements laid. -/
def Filled {α : Type} (e sz : Nat) (cs : α → List Value) (xs : List α) (g k : Nat) (w : World) : Prop :=
  ∃ inner, w.ownsRow 0 e sz (.slice (some ⟨g, 0, none⟩) xs.length xs.length) xs.length inner ∧ ∀ j x, j < k → xs[j]? = some x → (inner.drop (j * sz)).take sz = cs x
theorem Filled.start {α : Type} {e sz : Nat} {cs : α → List Value} {xs : List α} {g : Nat} {w : World} {inner : List Value} (h : w.ownsRow 0 e sz (.slice (some ⟨g, 0, none⟩) xs.length xs.length) xs.length inner) : Filled e sz cs xs g 0 w :=
  ⟨_, h, fun j x hj => absurd hj (by omega)⟩
theorem Filled.below {α : Type} {e sz : Nat} {cs : α → List Value} {xs : List α} {g k : Nat} {w w1 : World} (h : Filled e sz cs xs g k w) (hb : Below w.heap.size w w1) : Filled e sz cs xs g k w1 := by
  obtain ⟨inner, ho, hf⟩ := h
  exact ⟨inner, Kn.own_move ho (fun b hk => hb.block b (ho.lt b hk).2), hf⟩
theorem Filled.lt {α : Type} {e sz : Nat} {cs : α → List Value} {xs : List α} {g k : Nat} {w : World} (h : Filled e sz cs xs g k w) : g < w.heap.size := by
  obtain ⟨inner, ho, hf⟩ := h
  exact (ho.lt g rfl).2
theorem Filled.snoc {α : Type} {e sz : Nat} {cs : α → List Value} {xs : List α} {g k : Nat} {w1 : World} {inner : List Value} {x : α} (hf : ∀ j x, j < k → xs[j]? = some x → (inner.drop (j * sz)).take sz = cs x) (hk : xs[k]? = some x) (hl : (cs x).length = sz)
    (hi : inner.length = xs.length * sz) (ho : w1.ownsRow 0 e sz (.slice (some ⟨g, 0, none⟩) xs.length xs.length) xs.length (setAll inner (k * sz) (cs x))) : Filled e sz cs xs g (k + 1) w1 := by
  refine ⟨_, ho, fun j y hj hy => ?_⟩
  have hkl := (List.getElem?_eq_some_iff.1 hk).1
  by_cases h : j = k
  · subst h
    obtain rfl := Option.some.inj (hk.symm.trans hy)
    exact setAll_chunk hl (by rw [hi, ← Nat.succ_mul]; exact Nat.mul_le_mul_right _ hkl)
  · rw [setAll_other hl h]
    exact hf j y (by omega) hy
theorem Filled.done {α : Type} {d : Kn α} {e : Nat} {cs : α → List Value} {xs : List α} {g : Nat} {w : World} (h : Filled e d.sz cs xs g xs.length w) (hd : ∀ w x, d.O w x (cs x) []) : (Kn.slice e d).O w xs [.slice (some ⟨g, 0, none⟩) xs.length xs.length] [g] := by
  obtain ⟨inner, ho, hf⟩ := h
  have hfoot : Kn.foot (.slice (some ⟨g, 0, none⟩) xs.length xs.length) (xs.map fun x => (x, ([] : List Nat))) = [g] := by
    have : (xs.map fun x => (x, ([] : List Nat))).map Prod.snd = List.replicate xs.length [] := by simp [List.eq_replicate_iff]
    simp [Kn.foot, this, Value.ownBlock]
  refine ⟨_, xs.map (fun x => (x, [])), rfl, by simp [Function.comp_def], ⟨inner, by rw [List.length_map]; exact ho, fun j p hj => ?_, by rw [hfoot]; simp⟩, hfoot.symm⟩
  rw [List.getElem?_map, Option.map_eq_some_iff] at hj
  obtain ⟨x, hx, rfl⟩ := hj
  rw [hf j x (List.getElem?_eq_some_iff.1 hx).1 hx]
  exact hd w x
/-- The same where the elements own blocks: they lie behind the row's block, each once. -/
def FilledO {α : Type} (d : Kn α) (e : Nat) (xs : List α) (g k : Nat) (w : World) : Prop :=
  ∃ inner ps, w.ownsRow 0 e d.sz (.slice (some ⟨g, 0, none⟩) xs.length xs.length) xs.length inner ∧ ps.map Prod.fst = xs.take k ∧ Kn.Items d w ps inner ∧ (ps.map Prod.snd).flatten.Nodup ∧ ∀ b, b ∈ (ps.map Prod.snd).flatten → g < b
theorem FilledO.start {α : Type} {d : Kn α} {e : Nat} {xs : List α} {g : Nat} {w : World} {inner : List Value} (h : w.ownsRow 0 e d.sz (.slice (some ⟨g, 0, none⟩) xs.length xs.length) xs.length inner) : FilledO d e xs g 0 w :=
  ⟨_, [], h, by simp, fun j p hj => by simp at hj, by simp, fun b hb => by simp at hb⟩
theorem FilledO.lt {α : Type} {d : Kn α} {e : Nat} {xs : List α} {g k : Nat} {w : World} (h : FilledO d e xs g k w) : g < w.heap.size := by
  obtain ⟨inner, ps, ho, _⟩ := h
  exact (ho.lt g rfl).2
theorem FilledO.row {α : Type} {d : Kn α} {e : Nat} {xs : List α} {g k : Nat} {w w1 : World} (h : FilledO d e xs g k w) (hb : Below w.heap.size w w1) : ∃ inner, w1.ownsRow 0 e d.sz (.slice (some ⟨g, 0, none⟩) xs.length xs.length) xs.length inner ∧
    ∀ (x : α) (cs : List Value) (F : List Nat) (w2 : World), xs[k]? = some x → cs.length = d.sz → d.O w1 x cs F → (∀ b, b ∈ F → w.heap.size ≤ b) → w1.grownBy w2 (some g) → w2.ownsRow 0 e d.sz (.slice (some ⟨g, 0, none⟩) xs.length xs.length) xs.length (setAll inner (k * d.sz) cs) → FilledO d e xs g (k + 1) w2 := by
  have hlt := h.lt
  obtain ⟨inner, ps, ho, hps, hi, hn, hg⟩ := h
  refine ⟨inner, Kn.own_move ho (fun b hk => hb.block b (ho.lt b hk).2), fun x cs F w2 hx hcs hO hF hgr ho2 => ?_⟩
  have hkl := (List.getElem?_eq_some_iff.1 hx).1
  have hpl : ps.length = k := by
    have := congrArg List.length hps
    rw [List.length_map, List.length_take] at this
    omega
  have hold : ∀ b, b ∈ (ps.map Prod.snd).flatten → b < w.heap.size := by
    intro b hb
    obtain ⟨l, hl, hb⟩ := List.mem_flatten.1 hb
    obtain ⟨p, hp, rfl⟩ := List.mem_map.1 hl
    obtain ⟨j, hj⟩ := List.mem_iff_getElem?.1 hp
    exact d.O_lt (hi j p hj) b hb
  refine ⟨_, ps ++ [(x, F)], ho2, ?_, ?_, ?_, ?_⟩
  · rw [List.map_append, hps, List.take_add_one, hx]
    rfl
  · intro j p hj
    rcases Nat.lt_or_ge j k with hjk | hjk
    · rw [List.getElem?_append_left (by omega)] at hj
      rw [setAll_other hcs (by omega)]
      refine d.O_move (fun b hbm => ?_) (hi j p hj)
      have hbf : b ∈ (ps.map Prod.snd).flatten := List.mem_flatten.2 ⟨p.2, List.mem_map.2 ⟨p, List.mem_of_getElem? hj, rfl⟩, hbm⟩
      have h1 := hold b hbf
      have h2 := hg b hbf
      exact (hgr.block b (Nat.lt_of_lt_of_le h1 hb.size) (fun he => by injection he with he; omega)).trans (hb.block b h1)
    · have hjl := (List.getElem?_eq_some_iff.1 hj).1
      rw [List.length_append, List.length_singleton] at hjl
      obtain rfl : j = k := by omega
      rw [List.getElem?_append_right (by omega), hpl, Nat.sub_self] at hj
      obtain rfl := Option.some.inj hj
      have hil : j * d.sz + d.sz ≤ inner.length := by rw [ho.1, ← Nat.succ_mul]; exact Nat.mul_le_mul_right _ hkl
      rw [setAll_chunk hcs hil]
      exact d.O_move (fun b hbm => hgr.block b (d.O_lt hO b hbm) (fun he => by injection he with he; have := hF b hbm; omega)) hO
  · rw [List.map_append, List.flatten_append, List.nodup_append]
    refine ⟨hn, by simpa using d.O_nodup hO, fun a ha b hb => ?_⟩
    have h1 := hold a ha
    have h2 := hF b (by simpa using hb)
    omega
  · intro b hbm
    rw [List.map_append, List.flatten_append] at hbm
    rcases List.mem_append.1 hbm with hbm | hbm
    · exact hg b hbm
    · have := hF b (by simpa using hbm)
      omega
theorem FilledO.done {α : Type} {d : Kn α} {e : Nat} {xs : List α} {g : Nat} {w : World} (h : FilledO d e xs g xs.length w) : ∃ F, (Kn.slice e d).O w xs [.slice (some ⟨g, 0, none⟩) xs.length xs.length] F ∧ ∀ b, b ∈ F → g ≤ b := by
  obtain ⟨inner, ps, ho, hps, hi, hn, hg⟩ := h
  rw [List.take_length] at hps
  have hpl : ps.length = xs.length := by rw [← hps, List.length_map]
  refine ⟨_, ⟨_, ps, rfl, hps.symm, ⟨inner, by rw [hpl]; exact ho, hi, ?_⟩, rfl⟩, ?_⟩
  · simp only [Kn.foot, Value.ownBlock, Option.toList_some, List.singleton_append, List.nodup_cons]
    exact ⟨fun hm => absurd (hg g hm) (by omega), hn⟩
  · intro b hb
    simp only [Kn.foot, Value.ownBlock, Option.toList_some, List.singleton_append, List.mem_cons] at hb
    rcases hb with rfl | hb
    · exact Nat.le_refl _
    · exact Nat.le_of_lt (hg b hb)
/-- A call that hands back a value of its own. -/
def RetS {α : Type} (e : Nat) (d : Kn α) (xs : List α) (w : World) (en : Ending) (w' : World) : Prop := ∃ A c F, en = .returned (.slice A xs.length c) ∧ (Kn.slice e d).O w' xs [.slice A xs.length c] F ∧ (∀ b, b ∈ F → w.heap.size ≤ b) ∧ Below w.heap.size w w'
theorem toPiece (x : Piece) (w : World) : Calls Try.prog 128 #[x.v] w (RetV x.v w) := by
  obtain ⟨a0, a1, a2, a3⟩ := x
  go_enter Try.func128, Try.ntmps128
  go_wp2
  exact bodyPost_ret (v := .agg #[.string a0, .int .i64 a1, .int .i64 a2, .int .i64 a3]) (by simp [results, Try.results128, go_sem]) rfl ⟨rfl, ((below_alloc _ _).alloc (by simp) _).alloc (by simp; omega) _⟩
theorem info103 : (Try.prog.info? 103).map (fun i => (i.zero, i.size, i.bytes)) = some (some (.agg #[.string ⟨#[]⟩, .int .i64 0, .int .i64 0, .int .i64 0]), 4, 40) := by kernel_rfl
set_option maxRecDepth 100000 in
set_option maxHeartbeats 1000000 in
theorem toPieceS {ok : Nat → Prop} (A : Option Addr) (c : Nat) (xs : List Piece) (w : World) (hx : pieceK.C w ok A xs) (hn : xs.length ≤ 1048576) :
    Calls Try.prog 67 #[.slice A xs.length c] w (RetS 103 pieceK xs w) := by
  obtain ⟨i0, hi, hz0, hz1, hz2⟩ := info_parts info103
  go_enter Try.func67, Try.ntmps67
  go_wp2_with (at_make; refine wpList_make_full _ rfl _ _ 31 rfl 0 103 i0 _ 4 Try.underlying31 hi hz0 hz1 .i64 .i64 _ _ xs.length rfl rfl rfl rfl (by rw [hz2]; omega) (by unfold maxLen; omega) (Nat.zero_le _) ?_; intro w0 hown hg0)
  go_loopw [4] (fun i wr => ∃ k : Nat, k ≤ xs.length ∧ i = .int .i64 k ∧ Filled 103 4 Piece.cs xs w.heap.size k wr ∧ Below w.heap.size w wr) (fun i _ => xs.length - (intOf i).toNat)
  case atStart => exact ⟨0, Nat.zero_le _, rfl, Filled.start hown, ⟨hg0.os, hg0.tape, hg0.output, hg0.size, fun b hb => hg0.block b hb (by simp)⟩⟩
  case round =>
    obtain ⟨k, hk, rfl, HF, hb⟩ := hrel
    by_cases hlt : k < xs.length
    · obtain ⟨a0, rfl, y0, y1, y2, y3, E, g0, g1, g2, g3⟩ := pieceK_at (Kn.C_below hb hx) k hlt
      have i0 : (0 : Int) ≤ (k : Int) := Int.natCast_nonneg _
      have i1 : (k : Int) < (xs.length : Int) := by omega
      have hgl := HF.lt
      go_wp2_with fail
      refine (toPiece ⟨y0, y1, y2, y3⟩ _).mono ?_
      rintro e w1 ⟨rfl, hb1⟩
      obtain ⟨inner, ho, hf⟩ := HF.below hb1
      have HF := Lib.hid hf
      clear hf
      go_wp2_with (refine wpList_store_own rfl _ _ _ rfl [.string y0, .int .i64 y1, .int .i64 y2, .int .i64 y3] ho rfl rfl ?_ (size_of_info info103) rfl ?_; (simp; omega); intro w2 ho2 hg2)
      go_roundw
      case rel => exact ⟨k + 1, by omega, by go_num, Filled.snoc HF.out E.out rfl ho.1 ho2, below_grown (hb.trans (hb1.mono hb.size)) hg2 (Nat.le_refl _) (Nat.le_trans hb.size hb1.size)⟩
      case measure => simp [intOf]; omega
    · obtain rfl : k = xs.length := by omega
      go_wp2
      go_ret
      exact ⟨_, _, _, rfl, HF.done (fun w x => pieceK_own w x), fun b hb => by rw [List.mem_singleton.1 hb]; exact Nat.le_refl _, hb⟩
theorem toEnd (x : End) (w : World) : Calls Try.prog 184 #[x.v] w (RetV x.v w) := by
  obtain ⟨a0, a1⟩ := x
  go_enter Try.func184, Try.ntmps184
  go_wp2
  exact bodyPost_ret (v := .agg #[.int .i64 a0, .int .i64 a1]) (by simp [results, Try.results184, go_sem]) rfl ⟨rfl, ((below_alloc _ _).alloc (by simp) _).alloc (by simp; omega) _⟩
theorem info118 : (Try.prog.info? 118).map (fun i => (i.zero, i.size, i.bytes)) = some (some (.agg #[.int .i64 0, .int .i64 0]), 2, 16) := by kernel_rfl
set_option maxRecDepth 100000 in
set_option maxHeartbeats 1000000 in
theorem toEndS {ok : Nat → Prop} (A : Option Addr) (c : Nat) (xs : List End) (w : World) (hx : endK.C w ok A xs) (hn : xs.length ≤ 1048576) :
    Calls Try.prog 167 #[.slice A xs.length c] w (RetS 118 endK xs w) := by
  obtain ⟨i0, hi, hz0, hz1, hz2⟩ := info_parts info118
  go_enter Try.func167, Try.ntmps167
  go_wp2_with (at_make; refine wpList_make_full _ rfl _ _ 123 rfl 0 118 i0 _ 2 Try.underlying123 hi hz0 hz1 .i64 .i64 _ _ xs.length rfl rfl rfl rfl (by rw [hz2]; omega) (by unfold maxLen; omega) (Nat.zero_le _) ?_; intro w0 hown hg0)
  go_loopw [4] (fun i wr => ∃ k : Nat, k ≤ xs.length ∧ i = .int .i64 k ∧ Filled 118 2 End.cs xs w.heap.size k wr ∧ Below w.heap.size w wr) (fun i _ => xs.length - (intOf i).toNat)
  case atStart => exact ⟨0, Nat.zero_le _, rfl, Filled.start hown, ⟨hg0.os, hg0.tape, hg0.output, hg0.size, fun b hb => hg0.block b hb (by simp)⟩⟩
  case round =>
    obtain ⟨k, hk, rfl, HF, hb⟩ := hrel
    by_cases hlt : k < xs.length
    · obtain ⟨a0, rfl, y0, y1, E, g0, g1⟩ := endK_at (Kn.C_below hb hx) k hlt
      have i0 : (0 : Int) ≤ (k : Int) := Int.natCast_nonneg _
      have i1 : (k : Int) < (xs.length : Int) := by omega
      have hgl := HF.lt
      go_wp2_with fail
      refine (toEnd ⟨y0, y1⟩ _).mono ?_
      rintro e w1 ⟨rfl, hb1⟩
      obtain ⟨inner, ho, hf⟩ := HF.below hb1
      have HF := Lib.hid hf
      clear hf
      go_wp2_with (refine wpList_store_own rfl _ _ _ rfl [.int .i64 y0, .int .i64 y1] ho rfl rfl ?_ (size_of_info info118) rfl ?_; (simp; omega); intro w2 ho2 hg2)
      go_roundw
      case rel => exact ⟨k + 1, by omega, by go_num, Filled.snoc HF.out E.out rfl ho.1 ho2, below_grown (hb.trans (hb1.mono hb.size)) hg2 (Nat.le_refl _) (Nat.le_trans hb.size hb1.size)⟩
      case measure => simp [intOf]; omega
    · obtain rfl : k = xs.length := by omega
      go_wp2
      go_ret
      exact ⟨_, _, _, rfl, HF.done (fun w x => endK_own w x), fun b hb => by rw [List.mem_singleton.1 hb]; exact Nat.le_refl _, hb⟩
theorem toSignal (x : Signal) (w : World) : Calls Try.prog 111 #[x.v] w (RetV x.v w) := by
  obtain ⟨a0, a1, a2, a3⟩ := x
  go_enter Try.func111, Try.ntmps111
  go_wp2
  exact bodyPost_ret (v := .agg #[.string a0, .int .i64 a1, .int .i64 a2, .int .i64 a3]) (by simp [results, Try.results111, go_sem]) rfl ⟨rfl, ((below_alloc _ _).alloc (by simp) _).alloc (by simp; omega) _⟩
theorem info101 : (Try.prog.info? 101).map (fun i => (i.zero, i.size, i.bytes)) = some (some (.agg #[.string ⟨#[]⟩, .int .i64 0, .int .i64 0, .int .i64 0]), 4, 40) := by kernel_rfl
set_option maxRecDepth 100000 in
set_option maxHeartbeats 1000000 in
theorem toSignalS {ok : Nat → Prop} (A : Option Addr) (c : Nat) (xs : List Signal) (w : World) (hx : signalK.C w ok A xs) (hn : xs.length ≤ 1048576) :
    Calls Try.prog 41 #[.slice A xs.length c] w (RetS 101 signalK xs w) := by
  obtain ⟨i0, hi, hz0, hz1, hz2⟩ := info_parts info101
  go_enter Try.func41, Try.ntmps41
  go_wp2_with (at_make; refine wpList_make_full _ rfl _ _ 40 rfl 0 101 i0 _ 4 Try.underlying40 hi hz0 hz1 .i64 .i64 _ _ xs.length rfl rfl rfl rfl (by rw [hz2]; omega) (by unfold maxLen; omega) (Nat.zero_le _) ?_; intro w0 hown hg0)
  go_loopw [4] (fun i wr => ∃ k : Nat, k ≤ xs.length ∧ i = .int .i64 k ∧ Filled 101 4 Signal.cs xs w.heap.size k wr ∧ Below w.heap.size w wr) (fun i _ => xs.length - (intOf i).toNat)
  case atStart => exact ⟨0, Nat.zero_le _, rfl, Filled.start hown, ⟨hg0.os, hg0.tape, hg0.output, hg0.size, fun b hb => hg0.block b hb (by simp)⟩⟩
  case round =>
    obtain ⟨k, hk, rfl, HF, hb⟩ := hrel
    by_cases hlt : k < xs.length
    · obtain ⟨a0, rfl, y0, y1, y2, y3, E, g0, g1, g2, g3⟩ := signalK_at (Kn.C_below hb hx) k hlt
      have i0 : (0 : Int) ≤ (k : Int) := Int.natCast_nonneg _
      have i1 : (k : Int) < (xs.length : Int) := by omega
      have hgl := HF.lt
      go_wp2_with fail
      refine (toSignal ⟨y0, y1, y2, y3⟩ _).mono ?_
      rintro e w1 ⟨rfl, hb1⟩
      obtain ⟨inner, ho, hf⟩ := HF.below hb1
      have HF := Lib.hid hf
      clear hf
      go_wp2_with (refine wpList_store_own rfl _ _ _ rfl [.string y0, .int .i64 y1, .int .i64 y2, .int .i64 y3] ho rfl rfl ?_ (size_of_info info101) rfl ?_; (simp; omega); intro w2 ho2 hg2)
      go_roundw
      case rel => exact ⟨k + 1, by omega, by go_num, Filled.snoc HF.out E.out rfl ho.1 ho2, below_grown (hb.trans (hb1.mono hb.size)) hg2 (Nat.le_refl _) (Nat.le_trans hb.size hb1.size)⟩
      case measure => simp [intOf]; omega
    · obtain rfl : k = xs.length := by omega
      go_wp2
      go_ret
      exact ⟨_, _, _, rfl, HF.done (fun w x => signalK_own w x), fun b hb => by rw [List.mem_singleton.1 hb]; exact Nat.le_refl _, hb⟩
def RetJoint (x : Joint) (w : World) (e : Ending) (w' : World) : Prop :=
  ∃ A c F, e = .returned (.agg #[.int .i64 x.kind, .string x.name, .slice A x.ends.length c]) ∧ (jointK 118).O w' x [.int .i64 x.kind, .string x.name, .slice A x.ends.length c] F ∧ (∀ b, b ∈ F → w.heap.size ≤ b) ∧ Below w.heap.size w w'
theorem jointK_own {e : Nat} {w : World} {x : Joint} {v : Value} {F : List Nat} (h : (Kn.slice e endK).O w x.ends [v] F) : (jointK e).O w x [.int .i64 x.kind, .string x.name, v] F :=
  ⟨_, _, [], F, rfl, rfl, ⟨rfl, rfl⟩, ⟨_, _, [], F, rfl, rfl, ⟨rfl, rfl⟩, h, (Kn.slice e endK).O_nodup h⟩, (Kn.slice e endK).O_nodup h⟩
set_option maxRecDepth 100000 in
set_option maxHeartbeats 1000000 in
theorem toJoint {ok : Nat → Prop} (x : Joint) (A : Option Addr) (c : Nat) (w : World) (hx : endK.C w ok A x.ends) (hn : x.ends.length ≤ 1048576) :
    Calls Try.prog 129 #[.agg #[.int .i64 x.kind, .string x.name, .slice A x.ends.length c]] w (RetJoint x w) := by
  obtain ⟨a0, a1, a2⟩ := x
  simp only at hx hn
  go_enter Try.func129, Try.ntmps129
  go_wp2_with fail
  refine (toEndS _ _ _ _ (Kn.C_below (((below_alloc w _).alloc (by simp) _).alloc (by simp; omega) _) hx) hn).mono ?_
  rintro e w1 ⟨A', c', F, rfl, hO, hF, hb1⟩
  obtain ⟨hc1, hf1⟩ := bcell hb1
  have HO := Lib.hid hO
  have HF := Lib.hid hF
  clear hO hF
  go_wp2
  have hz : w.heap.size + 1 + 1 < w1.heap.size := by have := hb1.size; simp at this; omega
  have B1 := (((below_alloc w (.cells #[.int .i64 a0, .string a1, .slice A a2.length c] 187)).alloc (by simp) (.cells #[.int .i64 0, .string ⟨#[]⟩, .slice none 0 0] 125)).alloc (by simp; omega) (.cells #[.int .i64 a0, .string a1, .slice none 0 0] 125)).trans (hb1.mono (by simp; omega))
  have hF : ∀ b, b ∈ F → w.heap.size + 1 + 1 + 1 ≤ b := fun b hb => by have := HF.out b hb; simp at this; omega
  exact bodyPost_ret (v := .agg #[.int .i64 a0, .string a1, .slice A' a2.length c']) (by simp [results, Try.results129, go_sem, hc1, hz]) rfl ⟨_, _, F, rfl,
    jointK_own (O_set (O_set (O_set (O_set HO.out (fun b hb => by have := hF b hb; simp; omega) _) (fun b hb => by have := hF b hb; simp; omega) _) (fun b hb => by have := hF b hb; simp; omega) _) (fun b hb => by have := hF b hb; simp; omega) _),
    fun b hb => by have := hF b hb; omega, (((B1.setCell (by simp; omega) _).setCell (by simp) _).setCell (by simp) _).setCell (by simp) _⟩
theorem info125 : (Try.prog.info? 125).map (fun i => (i.zero, i.size, i.bytes)) = some (some (.agg #[.int .i64 0, .string ⟨#[]⟩, .slice none 0 0]), 3, 48) := by kernel_rfl
set_option maxRecDepth 100000 in
set_option maxHeartbeats 1000000 in
theorem toJointS {ok : Nat → Prop} (A : Option Addr) (c : Nat) (xs : List Joint) (w : World) (hx : (jointK 245).C w ok A xs) (hn : xs.length ≤ 1048576) (hs : Hid (∀ x ∈ xs, x.ends.length ≤ 1048576)) :
    Calls Try.prog 68 #[.slice A xs.length c] w (RetS 125 (jointK 118) xs w) := by
  obtain ⟨i0, hi, hz0, hz1, hz2⟩ := info_parts info125
  go_enter Try.func68, Try.ntmps68
  go_wp2_with (at_make; refine wpList_make_full _ rfl _ _ 32 rfl 0 125 i0 _ 3 Try.underlying32 hi hz0 hz1 .i64 .i64 _ _ xs.length rfl rfl rfl rfl (by rw [hz2]; omega) (by unfold maxLen; omega) (Nat.zero_le _) ?_; intro w0 hown hg0)
  go_loopw [4] (fun i wr => ∃ k : Nat, k ≤ xs.length ∧ i = .int .i64 k ∧ FilledO (jointK 118) 125 xs w.heap.size k wr ∧ Below w.heap.size w wr) (fun i _ => xs.length - (intOf i).toNat)
  case atStart => exact ⟨0, Nat.zero_le _, rfl, FilledO.start hown, ⟨hg0.os, hg0.tape, hg0.output, hg0.size, fun b hb => hg0.block b hb (by simp)⟩⟩
  case round =>
    obtain ⟨k, hk, rfl, HF, hb⟩ := hrel
    by_cases hlt : k < xs.length
    · obtain ⟨a0, rfl, x, E, A0, c0, g0, g1, g2, l0, q0⟩ := jointK_at (Kn.C_below hb hx) k hlt
      have hsx := hs.out _ (mem_of_get E.out)
      have i0 : (0 : Int) ≤ (k : Int) := Int.natCast_nonneg _
      have i1 : (k : Int) < (xs.length : Int) := by omega
      have hgl := HF.lt
      go_wp2_with fail
      refine (toJoint x A0 c0 _ q0 hsx).mono ?_
      rintro e w1 ⟨A', c', F, rfl, hO, hF, hb1⟩
      obtain ⟨inner, ho, hst⟩ := HF.row hb1
      replace ho : w1.ownsRow 0 125 3 (.slice (some ⟨w.heap.size, 0, none⟩) xs.length xs.length) xs.length inner := ho
      have HO := Lib.hid hO
      have HF := Lib.hid hF
      have HS := Lib.hid hst
      clear hO hF hst
      go_wp2_with (refine wpList_store_own rfl _ _ _ rfl [.int .i64 x.kind, .string x.name, .slice A' x.ends.length c'] ho rfl rfl ?_ (size_of_info info125) rfl ?_; (simp; omega); intro w2 ho2 hg2)
      go_roundw
      case rel => exact ⟨k + 1, by omega, by go_num, HS.out _ _ F _ E.out rfl HO.out HF.out hg2 ho2, below_grown (hb.trans (hb1.mono hb.size)) hg2 (Nat.le_refl _) (Nat.le_trans hb.size hb1.size)⟩
      case measure => simp [intOf]; omega
    · obtain rfl : k = xs.length := by omega
      go_wp2
      go_ret
      obtain ⟨F, h1, h2⟩ := HF.done
      exact ⟨_, _, F, rfl, h1, h2, hb⟩
def RetNet (x : Net) (w : World) (e : Ending) (w' : World) : Prop :=
  ∃ A0 c0 A1 c1 F0 F1, e = .returned (.agg #[.slice A0 x.pieces.length c0, .slice A1 x.joints.length c1]) ∧ (Kn.slice 103 pieceK).O w' x.pieces [.slice A0 x.pieces.length c0] F0 ∧ (Kn.slice 125 (jointK 118)).O w' x.joints [.slice A1 x.joints.length c1] F1 ∧
    (F0 ++ F1).Nodup ∧ (∀ b, b ∈ F0 ++ F1 → w.heap.size ≤ b) ∧ Below w.heap.size w w'
set_option maxRecDepth 100000 in
set_option maxHeartbeats 1000000 in
theorem toNet {ok : Nat → Prop} (x : Net) (A0 A1 : Option Addr) (c0 c1 : Nat) (w : World) (h0 : pieceK.C w ok A0 x.pieces) (h1 : (jointK 245).C w ok A1 x.joints) (hn0 : x.pieces.length ≤ 1048576) (hn1 : x.joints.length ≤ 1048576) (hs : Hid (∀ j ∈ x.joints, j.ends.length ≤ 1048576)) :
    Calls Try.prog 17 #[.agg #[.slice A0 x.pieces.length c0, .slice A1 x.joints.length c1]] w (RetNet x w) := by
  obtain ⟨ps, js⟩ := x
  simp only at h0 h1 hn0 hn1 hs
  go_enter Try.func17, Try.ntmps17
  go_wp2_with fail
  refine (toPieceS _ _ _ _ (Kn.C_below (((below_alloc w _).alloc (by simp) _).alloc (by simp; omega) _) h0) hn0).mono ?_
  rintro e w1 ⟨A2, c2, F0, rfl, hO0, hF0, hb1⟩
  obtain ⟨hc1, hf1⟩ := bcell hb1
  have HO0 := Lib.hid hO0
  have HF0 := Lib.hid hF0
  clear hO0 hF0
  have hz1 : w.heap.size + 1 + 1 < w1.heap.size := by have := hb1.size; simp at this; omega
  have hy1 : w.heap.size + 1 < w1.heap.size := by omega
  have hx1 : w.heap.size < w1.heap.size := by omega
  have B1 := (((below_alloc w (.cells #[.slice A0 ps.length c0, .slice A1 js.length c1] 26)).alloc (by simp) (.cells #[.slice none 0 0, .slice none 0 0] 34)).alloc (by simp; omega) (.cells #[.slice none 0 0, .slice none 0 0] 34)).trans (hb1.mono (by simp; omega))
  go_wp2_with fail
  refine (toJointS _ _ _ _ (Kn.C_below (B1.setCell (by simp; omega) _) h1) hn1 hs).mono ?_
  rintro e w2 ⟨A3, c3, F1, rfl, hO1, hF1, hb2⟩
  obtain ⟨hc2, hf2⟩ := bcell hb2
  have HO1 := Lib.hid hO1
  have HF1 := Lib.hid hF1
  clear hO1 hF1
  have hz2 : w.heap.size + 1 + 1 < w2.heap.size := by have := hb2.size; simp at this; omega
  go_wp2
  have hF0 : ∀ b, b ∈ F0 → w.heap.size + 1 + 1 + 1 ≤ b := fun b hb => by have := HF0.out b hb; simp at this; omega
  have hL0 : ∀ b, b ∈ F0 → b < w1.heap.size := (Kn.slice 103 pieceK).O_lt HO0.out
  have hF1 : ∀ b, b ∈ F1 → w1.heap.size ≤ b := fun b hb => by have := HF1.out b hb; simpa using this
  have K0 : (Kn.slice 103 pieceK).O w2 ps [.slice A2 ps.length c2] F0 := (Kn.slice 103 pieceK).O_move (fun b hb => hb2.block b (by have := hL0 b hb; simpa using this)) (O_set HO0.out (fun b hb => by have := hF0 b hb; simp; omega) _)
  have B2 := (B1.setCell (p := ⟨w.heap.size + 1 + 1, 0, none⟩) (by simp; omega) (.slice A2 ps.length c2)).trans (hb2.mono (by simp; omega))
  exact bodyPost_ret (v := .agg #[.slice A2 ps.length c2, .slice A3 js.length c3]) (by simp [results, Try.results17, go_sem, hc1, hz1, hy1, hx1, hc2, hz2]) rfl ⟨_, _, _, _, F0, F1, rfl,
    O_set (O_set (O_set K0 (fun b hb => by have := hF0 b hb; simp; omega) _) (fun b hb => by have := hF0 b hb; simp; omega) _) (fun b hb => by have := hF0 b hb; simp; omega) _,
    O_set (O_set (O_set HO1.out (fun b hb => by have := hF1 b hb; simp; omega) _) (fun b hb => by have := hF1 b hb; simp; omega) _) (fun b hb => by have := hF1 b hb; simp; omega) _,
    List.nodup_append.2 ⟨(Kn.slice 103 pieceK).O_nodup HO0.out, (Kn.slice 125 (jointK 118)).O_nodup HO1.out, fun a ha b hb => by have := hL0 a ha; have := hF1 b hb; omega⟩,
    fun b hb => by rcases List.mem_append.1 hb with hb | hb; (have := hF0 b hb; omega); (have := hF1 b hb; omega),
    ((B2.setCell (by simp; omega) _).setCell (by simp) _).setCell (by simp) _⟩
end Go.Proofs.Ytginpmhjpjcahaa.L
