/- SHA-256 as the program tells it: an object that is told bytes. -/
import Derived.Test.YtgnhpkdhicfeiaaDoorNSha
namespace Go.Proofs.YtgnhpkdhicfeiaaDoor.NSha
open Go Go.RowKit Go.Proofs.YtgnhpkdhicfeiaaDoor.MX Go.Proofs.YtgnhpkdhicfeiaaDoor.PSha
set_option linter.unusedVariables false
set_option linter.unusedSimpArgs false
set_option linter.unusedVariables false

/-- The object at block g, opened. -/
def HOp (g : Nat) (s : S8) (part : List Int) (n : Int) : Ch := Ch.hd g .u32 s.words (part.map (Value.int .u8) ++ [.int .i64 n]) 79
/-- The object at block g was told m. -/
def HAt (K : List Int) (g : Nat) (m : List Int) : Ch :=
  ⟨fun k => k = g, fun w => ∃ part, Part m part ∧ (HOp g (stN K m (m.length / 64)) part m.length).P w, fun w w' h ⟨p, h1, h2⟩ => ⟨p, h1, (h g rfl).trans h2⟩, fun w k ⟨p, h1, h2⟩ hk => (HOp g _ _ _).bd w k h2 hk⟩
theorem HAt.keep {K : List Int} {g : Nat} {m : List Int} {w w' : World} {S : Nat → Prop} (h : (HAt K g m).P w) (hc : Chg S w w') (hs : ¬ S g) : (HAt K g m).P w' :=
  (HAt K g m).loc w w' (fun k hk => hc.block k ((HAt K g m).bd w k h hk) (by rw [show k = g from hk]; exact hs)) h
theorem HAt.lt {K : List Int} {g : Nat} {m : List Int} {w : World} (h : (HAt K g m).P w) : g < w.heap.size := (HAt K g m).bd w g h rfl

set_option maxHeartbeats 1000000 in
theorem start_any (w : World) : Calls Tryd.prog 55 #[] w fun e w' => e = .returned (.agg (start8.words.map (Value.int .u32)).toArray) ∧ Chg (fun _ => False) w w' := by
  refine calls_of_X (vs := []) (M := Hp w (fun _ => False) []) Tryd.func55 rfl Tryd.ntmps55 rfl (Hp.nil _ _) ?_
  repeat first
    | refine XC_region ?_
    | refine X_nil ?_
    | refine XC_seq ?_
    | refine XT_seq ?_
    | refine XC_ret ?_
    | refine Y_res (r_buildI (by rfl) (by rfl)) rfl ?_
    | (refine X_allocI rfl ?_; intro _ _)
    | refine X_storeWI rfl rfl (by rfl) (by rfl) ?_
  refine XT_retC (.inl rfl) Tryd.results55 rfl (by rfl) (fun w' h => ?_)
  exact ⟨rfl, h.chg⟩
set_option maxHeartbeats 1000000 in
theorem new_any (K : List Int) (w : World) : Calls Tryd.prog 45 #[] w fun e w' => ∃ g, e = .returned (.pointer (some ⟨g, 0, none⟩)) ∧ w.heap.size ≤ g ∧ (HAt K g []).P w' ∧ Chg (fun _ => False) w w' := by
  refine calls_of_X (vs := []) (M := Hp w (fun _ => False) []) Tryd.func45 rfl Tryd.ntmps45 rfl (Hp.nil _ _) ?_
  repeat first
    | refine XC_region ?_
    | refine X_nil ?_
    | refine XC_seq ?_
    | refine XT_seq ?_
    | refine Y_res (r_assign rfl) rfl ?_
    | refine Y_call (g := 55) rfl rfl (fun w1 hM => (start_any w1).mono fun e w2 h => ⟨h.1, hM.keep h.2⟩) ?_
  refine Y_res (r_buildX (v := .agg (start8.words.map (Value.int .u32) ++ ((List.replicate 64 0).map (Value.int .u8) ++ [Value.int .i64 0])).toArray) rfl (fun _ => by kernel_rfl)) rfl ?_
  refine X_boxA rfl rfl (fun g hg => ?_)
  repeat first
    | refine X_nil ?_
    | refine XT_seq ?_
    | refine XC_ret ?_
    | refine Y_res (r_assign rfl) rfl ?_
  refine XT_ret1 (.inl rfl) Tryd.results45 rfl (fun w' h => ?_)
  exact ⟨g, rfl, hg, ⟨List.replicate 64 0, ⟨by simp, fun i hi => by simp at hi⟩, h.head⟩, h.chg⟩
theorem part_rds {g : Nat} {s : S8} {part : List Int} {rs : List Value} {T : TypeId} {w : World} (h : (Ch.hd g .u32 s.words (part.map (Value.int .u8) ++ rs) T).P w) (hp : part.length = 64) : Rds w (some ⟨g, 8, none⟩) 64 .u8 part :=
  ⟨by omega, by decide, fun e => (by cases e), fun j hj => by
    have hb : w.heap[g]? = some (.cells (s.words.map (Value.int .u32) ++ (part.map (Value.int .u8) ++ rs)).toArray T (0, 0)) := h
    have e := map_getD (k := .u8) hj
    show w.cell? ((⟨g, 8, none⟩ : Addr).add j) = _
    rw [add_mk]
    simp only [World.cell?, hb, Option.isSome_none, Bool.false_eq_true, if_false, List.getElem?_toArray]
    rw [List.getElem?_append_right (by simp [S8.words]), List.length_map, show s.words.length = 8 from rfl, show 8 + j - 8 = j by omega, List.getElem?_append_left (by simpa using hj)]
    exact e⟩

set_option maxHeartbeats 4000000 in
/-- Telling it more. -/
theorem write_any (K : List Int) (g : Nat) (m l : List Int) (A : Option Addr) (c : Nat) (w : World) (hT : (HAt K g m).P w) (hr : Rds w A c .u8 l) (hA : l ≠ [] → Old (fun k => k = g) A) (hg : g ≠ 2) (hm : m.length + l.length ≤ 1000000000) (hK : KAt K w) :
    Calls Tryd.prog 46 #[.pointer (some ⟨g, 0, none⟩), .slice A l.length c] w fun e w' => e = .returned (.tuple #[]) ∧ (HAt K g (m ++ l)).P w' ∧ Chg (fun k => k = g) w w' := by
  refine calls_of_X (vs := [_, _]) (M := Hp w (fun k => k = g) [HAt K g m]) Tryd.func46 rfl Tryd.ntmps46 rfl (Hp.one hT (fun k hk => hk)) ?_
  repeat first
    | refine XC_block ?_
  refine XC_loop (ι := Option Addr × Nat) (fun i => i.2 ≤ l.length ∧ Rds w i.1 (c - i.2) .u8 (l.drop i.2) ∧ (l ≠ [] → Old (fun k => k = g) i.1)) (fun i => [(0, .pointer (some ⟨g, 0, none⟩)), (1, .slice i.1 (l.length - i.2) (c - i.2))])
    (fun i => Hp w (fun k => k = g) [HAt K g (m ++ l.take i.2)]) (fun i => l.length - i.2) (A, 0) ⟨Nat.zero_le _, hr, hA⟩ ⟨rfl, rfl, trivial⟩ (fun _ h => by simpa using h) ?_
  rintro ⟨A1, p⟩ ⟨hp, hr1, hA1⟩
  dsimp only at hp hr1 hA1 ⊢
  repeat first
    | refine XC_region ?_
    | refine X_nil ?_
    | refine XC_seq ?_
    | refine XT_seq ?_
    | refine Y_res (r_move rfl) rfl ?_
    | refine Y_res (r_gtr rfl rfl) rfl ?_
    | refine Y_res (r_len rfl) rfl ?_
  refine XC_condP rfl (fun hlt => ?_) (fun hge => ?_)
  · have hlt' : p < l.length := by omega
    have hA1 := hA1 (fun e => by rw [e] at hlt'; exact Nat.not_lt_zero _ hlt')
    obtain ⟨M, hM⟩ : ∃ M, M = m ++ l.take p := ⟨_, rfl⟩
    rw [← hM]
    have hMl : M.length = m.length + p := by rw [hM, List.length_append, List.length_take]; omega
    refine XC_open (fun part => Part M part) (fun part => Hp w (fun k => k = g) [HOp g (stN K M (M.length / 64)) part M.length]) (fun w1 h => let ⟨part, h1, h2⟩ := h.head; ⟨part, h1, h.conv h2 (fun k hk => hk)⟩) ?_
    intro part hpart
    have hpl := hpart.len
    obtain ⟨s, hs⟩ : ∃ s, s = stN K M (M.length / 64) := ⟨_, rfl⟩
    rw [← hs]
    refine XC_mem (M' := Hp w (fun k => k = g) [Ch.hd g .u32 s.words (part.map (Value.int .u8) ++ [Value.int .i64 M.length]) 79]) (fun _ h => h) ?_
    have hlast : (part.map (Value.int .u8) ++ [Value.int .i64 M.length])[64]? = some (.int .i64 M.length) := by simp [hpl]
    repeat first
      | refine XC_tailF (by kernel_rfl) (by kernel_rfl) drw_hp ?_
      | refine XQ_nilX ?_
      | refine XC_seq ?_
      | refine XT_seq ?_
      | refine XC_block ?_
      | refine XC_skip ?_
      | refine Y_res (r_move rfl) rfl ?_
      | refine Y_res (r_rem rfl rfl (by omega)) rfl ?_
      | refine Y_res (r_field' rfl) rfl ?_
      | refine Y_res (r_nilCheck rfl) rfl ?_
      | refine Y_res (r_cutA rfl rfl (by omega)) rfl ?_
      | refine Y_res (r_loadH rfl 64 rfl hlast) rfl ?_
    refine X_mem (M' := Hp w (fun k => k = g) [Ch.blk g (s.words.map (Value.int .u32) ++ (part.map (Value.int .u8) ++ [Value.int .i64 M.length])) 79]) (fun _ h => h) ?_
    obtain ⟨x, hx⟩ : ∃ x, x = (l.drop p).take (64 - M.length % 64) := ⟨_, rfl⟩
    have hxl : x.length = Nat.min (l.length - p) (64 - M.length % 64) := by rw [hx, List.length_take, List.length_drop]; exact Nat.min_comm _ _
    have hxb : M.length % 64 + x.length ≤ 64 ∧ x.length ≤ l.length - p ∧ 0 < x.length ∧ p + x.length ≤ l.length := by rw [hxl]; unfold Nat.min; omega
    have hnext : M ++ x = m ++ l.take (p + x.length) := by
      rw [hM, List.append_assoc, List.take_add]
      congr 2
      rw [hx, List.length_take, List.take_eq_take_iff]
      omega
    obtain ⟨hx1, hx2, hx3, hx4⟩ := hxb
    refine X_copy (ys := x) rfl rfl (fun w1 h => by rw [hx]; exact (hr1.old h hA1).take _) hxl (by simp [hpl, S8.words]; omega) rfl ?_
    have hpl2 := pcopy_len (r := M.length % 64) hpl hx1
    have hlast2 : ((pcopy part (M.length % 64) x).map (Value.int .u8) ++ [Value.int .i64 M.length])[64]? = some (.int .i64 M.length) := by simp [hpl2]
    refine X_mem (M' := Hp w (fun k => k = g) [Ch.hd g .u32 s.words ((pcopy part (M.length % 64) x).map (Value.int .u8) ++ [Value.int .i64 M.length]) 79]) (fun _ h => by
      have e := spl_part s.words part x [Value.int .i64 M.length] (M.length % 64) rfl hpl hx1
      unfold Ch.hd
      rw [← e]
      exact h) ?_
    repeat first
      | refine XC_region ?_
      | refine X_nil ?_
      | refine XC_seq ?_
      | refine XT_seq ?_
      | refine Y_res (r_move rfl) rfl ?_
      | refine Y_res (r_assign rfl) rfl ?_
      | refine Y_res (r_add64 rfl rfl (by omega)) rfl ?_
      | refine Y_res (r_field' rfl) rfl ?_
      | refine Y_res (r_nilCheck rfl) rfl ?_
      | refine Y_res (r_loadH rfl 64 rfl hlast2) rfl ?_
      | refine X_storeH rfl rfl rfl 64 rfl (by simp [hpl2]) ?_
    have hMx : (M ++ x).length = M.length + x.length := List.length_append
    have hlast3 : ((pcopy part (M.length % 64) x).map (Value.int .u8) ++ [Value.int .i64 (M ++ x).length])[64]? = some (.int .i64 (M ++ x).length) := by simp [hpl2]
    refine X_mem (M' := Hp w (fun k => k = g) [Ch.hd g .u32 s.words ((pcopy part (M.length % 64) x).map (Value.int .u8) ++ [Value.int .i64 (M ++ x).length]) 79]) (fun _ h => by
      rw [set_last (by simp [hpl2])] at h
      rw [hMx]
      exact h) ?_
    repeat first
      | refine X_nil ?_
      | refine XT_seq ?_
      | refine Y_res (r_rem rfl rfl (by omega)) rfl ?_
      | refine Y_res (r_eql rfl rfl) rfl ?_
      | refine Y_res (r_loadH rfl 64 rfl hlast3) rfl ?_
    have hround : ∀ (w1 : World), (HAt K g (M ++ x)).P w1 → (HAt K g (m ++ l.take (p + x.length))).P w1 := fun w1 h => by rw [← hnext]; exact h
    have hI : p + x.length ≤ l.length ∧ Rds w (cutA A1 x.length (c - p) 1) (c - (p + x.length)) .u8 (l.drop (p + x.length)) ∧ (l ≠ [] → Old (fun k => k = g) (cutA A1 x.length (c - p) 1)) := by
      refine ⟨hx4, ?_, fun _ => old_cut hA1⟩
      have := hr1.drop x.length (by rw [List.length_drop]; exact hx2)
      rw [List.drop_drop, Nat.sub_sub] at this
      exact this
    refine XC_condP rfl (fun hfull => ?_) (fun hnot => ?_)
    · have hf : M.length % 64 + x.length = 64 := by omega
      skip
      refine XC_tail 7 (by kernel_rfl) (by kernel_rfl) drw_hp rfl rfl ?_
      repeat first
        | refine XQ_nilX ?_
        | refine Y_res (r_move rfl) rfl ?_
        | refine Y_res (r_field' rfl) rfl ?_
        | refine Y_res (r_nilCheck rfl) rfl ?_
        | refine Y_res (r_cutAll rfl) rfl ?_
      refine X_call rfl rfl (fun w1 h => (block g 64 64 (pcopy part (M.length % 64) x) K s ((pcopy part (M.length % 64) x).map (Value.int .u8) ++ [Value.int .i64 (M ++ x).length]) 79 (some ⟨g, 8, none⟩) w1 h.head (part_rds h.head hpl2) hpl2.symm hpl2 (hK.keep h.chg (fun e => hg e.symm)) hg).mono fun e w2 h2 => ⟨_, h2.1, _, h.turn h2.2.2 h2.2.1 (fun k hk => .inl hk), ?_⟩)
      repeat first
        | refine XC_region ?_
        | refine X_nil ?_
        | refine XT_seq ?_
        | refine XT_block_normal ?_
        | refine Y_res (r_move rfl) rfl ?_
        | refine Y_res (r_assign rfl) rfl ?_
        | refine Y_res (r_cutL rfl rfl (by omega)) rfl ?_
      refine XT_round (cutA A1 x.length (c - p) 1, p + x.length) hI (by dsimp only; omega) ⟨rfl, by dsimp only; rw [← Nat.sub_sub, ← Nat.sub_sub]; rfl, trivial⟩ (fun w3 h3 => ?_)
      refine h3.conv (hround w3 ⟨_, hpart.full hf, ?_⟩) (fun k hk => hk)
      rw [stN_full K hpart hf, ← hs]
      exact h3.head
    · have hf : M.length % 64 + x.length < 64 := by omega
      repeat first
        | refine XC_region ?_
        | refine X_nil ?_
        | refine XT_seq ?_
        | refine XT_block_normal ?_
        | refine XC_skip ?_
        | refine Y_res (r_move rfl) rfl ?_
        | refine Y_res (r_assign rfl) rfl ?_
        | refine Y_res (r_cutL rfl rfl (by omega)) rfl ?_
      refine XT_round (cutA A1 x.length (c - p) 1, p + x.length) hI (by dsimp only; omega) ⟨rfl, by dsimp only; rw [← Nat.sub_sub, ← Nat.sub_sub]; rfl, trivial⟩ (fun w3 h3 => ?_)
      refine h3.conv (hround w3 ⟨_, hpart.more hf, ?_⟩) (fun k hk => hk)
      rw [stN_more K hf, ← hs]
      exact h3.head
  · have hp1 : p = l.length := by omega
    repeat first
      | refine XT_block_same rfl ?_
      | refine XT_then_exit ?_
      | refine XC_exit ?_
    refine XT_ret0 (.inr rfl) Tryd.results46 (fun w1 h => ?_)
    rw [hp1, List.take_length] at h
    exact ⟨rfl, h.head, h.chg⟩
end Go.Proofs.YtgnhpkdhicfeiaaDoor.NSha
