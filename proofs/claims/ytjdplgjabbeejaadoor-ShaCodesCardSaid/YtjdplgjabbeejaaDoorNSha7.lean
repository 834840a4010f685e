/- The code under a key: the pads, and the code, walked. -/
import Derived.Test.YtjdplgjabbeejaaDoorNSha6
namespace Go.Proofs.YtjdplgjabbeejaaDoor.NSha
open Go Go.RowKit Go.Proofs.YtjdplgjabbeejaaDoor.MX Go.Proofs.YtjdplgjabbeejaaDoor.PSha
set_option linter.unusedVariables false
set_option linter.unusedSimpArgs false
set_option linter.unusedVariables false
/-- The first i places of a pad. -/
def pd (x : Int) (k : List Int) (i : Nat) : List Int := (k.take i).map (fun c => bits .xor .u8 x c) ++ List.replicate (64 - i) x
def pdf (x : Int) (k : List Int) : List Int := k.map (fun c => bits .xor .u8 x c) ++ List.replicate (64 - k.length) x
theorem pd_all (x : Int) (k : List Int) : pd x k k.length = pdf x k := by simp [pd, pdf]
theorem pd_len (x : Int) (k : List Int) (i : Nat) (hi : i ≤ k.length) (hk : k.length ≤ 64) : (pd x k i).length = 64 := by simp [pd]; omega
theorem pdf_len (x : Int) (k : List Int) (hk : k.length ≤ 64) : (pdf x k).length = 64 := by simp [pdf]; omega
theorem pd_set (x : Int) (k : List Int) (i : Nat) (hi : i < k.length) (hk : k.length ≤ 64) : (pd x k i).set i (bits .xor .u8 ((pd x k i).getD i 0) (k.getD i 0)) = pd x k (i + 1) := by
  have hl : ((k.take i).map (fun c => bits .xor .u8 x c)).length = i := by simp; omega
  have h1 : 64 - i = (64 - (i + 1)) + 1 := by omega
  have e : (pd x k i).getD i 0 = x := by
    unfold pd
    rw [app_getD_right (by omega), hl, h1]
    simp [List.replicate_succ]
  rw [e]
  unfold pd
  rw [List.set_append_right _ _ (by omega), hl, h1]
  simp only [Nat.sub_self, List.replicate_succ, List.set_cons_zero]
  rw [List.take_succ_eq_append_getElem hi, List.map_append, List.append_assoc]
  simp [List.getD_eq_getElem?_getD, hi]
set_option maxHeartbeats 1000000 in
theorem pad_any (x : Int) (k : List Int) (kb : Nat) (A : Option Addr) (c : Nat) (w : World) (hb : w.cell? ⟨kb, 0, none⟩ = some (.slice A k.length c)) (hr : Rds w A c .u8 k) (hk : k.length ≤ 64) :
    Calls Tryd.prog 23 #[.int .u8 x, .pointer (some ⟨kb, 0, none⟩)] w fun e w' => ∃ go rs, e = .returned (.slice (some ⟨go, 0, none⟩) 64 64) ∧ Hp w (fun _ => False) [Ch.hd go .u8 (pdf x k) rs 5] w' ∧ w.heap.size ≤ go := by
  have hkc := hr.le
  refine calls_of_X (vs := [_, _]) (M := Hp w (fun _ => False) []) Tryd.func23 rfl Tryd.ntmps23 rfl (Hp.nil _ _) ?_
  repeat first
    | refine XC_region ?_
    | refine X_nil ?_
    | refine XC_seq ?_
    | refine XT_seq ?_
    | refine Y_res (r_move rfl) rfl ?_
    | refine Y_res (r_assign rfl) rfl ?_
    | (refine X_buildS (by rfl) (by rfl) (by simp) rfl ?_; intro _ _)
  rename_i g hg
  refine X_call (g := 24) rfl rfl (fun w1 h1 => (repeat_any x g w1 (rds_ints h1.head (Nat.le_refl 1) (by decide))).mono ?_)
  rintro e w2 ⟨go, rs, rfl, h2, hgo⟩
  refine ⟨_, rfl, _, h1.frame0 h2, ?_⟩
  have hgw : w.heap.size ≤ go := Nat.le_trans h1.chg.size hgo
  clear h1 h2 hgo
  simp only [List.cons_append, List.nil_append]
  repeat first
    | refine XC_region ?_
    | refine X_nil ?_
    | refine XC_seq ?_
    | refine XT_seq ?_
    | refine XC_block ?_
    | refine Y_res (r_move rfl) rfl ?_
    | refine Y_res (r_assign rfl) rfl ?_
    | refine Y_res (r_len rfl) rfl ?_
    | refine Y_res (r_loadO rfl hb (fun h => h)) rfl ?_
  refine XC_loop (ι := Nat) (fun i => i ≤ k.length) (fun i => [(4, .slice (some ⟨go, 0, none⟩) 64 64), (10, .slice A k.length c), (11, .int .i64 k.length), (12, .int .i64 i)])
    (fun i => Hp w (fun _ => False) [Ch.hd go .u8 (pd x k i) rs 5]) (fun i => k.length - i) 0 (Nat.zero_le _) ⟨rfl, rfl, rfl, rfl, trivial⟩ (fun w h => ?_) ?_
  · have e : pd x k 0 = List.replicate 64 x := by simp [pd]
    rw [e]
    exact ⟨h.chg, fun c hc => h.sat c (by simp at hc; simp [hc]), fun c hc => h.own c (by simp at hc; simp [hc]), List.pairwise_singleton _ _⟩
  rintro i hi
  repeat first
    | refine XC_region ?_
    | refine X_nil ?_
    | refine XC_seq ?_
    | refine XT_seq ?_
    | refine Y_res (r_lss rfl rfl) rfl ?_
  refine XC_condP rfl (fun hlt => ?_) (fun hge => ?_)
  · have hi2 : i < k.length := by omega
    have hpl := pd_len x k i hi hk
    repeat first
      | refine XC_region ?_
      | refine X_nil ?_
      | refine XC_seq ?_
      | refine XT_seq ?_
      | refine XC_block ?_
      | refine XT_block_normal ?_
      | refine XC_skip ?_
      | refine Y_res (r_move rfl) rfl ?_
      | refine Y_res (r_assign rfl) rfl ?_
      | refine Y_res (r_add64 rfl rfl (by omega)) rfl ?_
      | refine Y_res (r_xor rfl rfl) rfl ?_
      | refine Y_res (r_indexR rfl rfl (by assumption) (by omega) (by omega)) rfl ?_
      | refine Y_res (r_loadI rfl (by first | omega | (simp only [List.length_set, List.length_replicate]; omega))) rfl ?_
      | refine Y_res (r_loadR rfl (by assumption) (by first | exact old_false | assumption) (by omega)) rfl ?_
      | refine X_storeI rfl rfl (by first | omega | (simp only [List.length_set, List.length_replicate]; omega)) ?_
      | refine Y_res (r_indexB rfl rfl (by omega)) rfl ?_
    rw [pd_set x k i hi2 hk]
    skip
    exact XT_round (i + 1) (by omega) (by omega) ⟨rfl, rfl, rfl, rfl, trivial⟩ (fun _ h => h)
  · obtain rfl : i = k.length := by omega
    rw [pd_all]
    repeat first
      | refine XC_region ?_
      | refine X_nil ?_
      | refine XC_seq ?_
      | refine XT_seq ?_
      | refine XT_block_same rfl ?_
      | refine XT_then_exit ?_
      | refine XC_exit ?_
      | refine XC_ret ?_
      | refine Y_res (r_move rfl) rfl ?_
      | refine Y_res (r_assign rfl) rfl ?_
    exact XT_ret1 (.inl rfl) Tryd.results23 rfl (fun w' h => ⟨go, rs, rfl, h, hgw⟩)
/-- The code of a message under a key. -/
def keyS (k : List Int) : List Int := if 64 < k.length then sumS KS k else k
def macS (k m : List Int) : List Int := sumS KS (pdf 92 (keyS k) ++ sumS KS (pdf 54 (keyS k) ++ m))
theorem keyS_len (k : List Int) : (keyS k).length ≤ 64 := by
  unfold keyS
  split
  · rw [sumS_len]; decide
  · omega
set_option maxHeartbeats 2000000 in
theorem mac_any (k m : List Int) (A A2 : Option Addr) (c c2 : Nat) (w : World) (hr : Rds w A c .u8 k) (hr2 : Rds w A2 c2 .u8 m) (hk : k.length ≤ 10000) (hm : m.length ≤ 10000) (hK : KAt KS w) :
    Calls Tryd.prog 16 #[.slice A k.length c, .slice A2 m.length c2] w (Tells 5 .u8 w (macS k m)) := by
  have hkc := hr.le
  have hmc := hr2.le
  have hpos := hK.pos
  refine calls_of_X (vs := [_, _]) (M := Hp w (fun _ => False) []) Tryd.func16 rfl Tryd.ntmps16 rfl (Hp.nil _ _) ?_
  repeat first
    | refine XC_region ?_
    | refine XC_seq ?_
  refine X_box1 rfl rfl rfl (fun g hg => ?_)
  repeat first
    | refine XC_region ?_
    | refine X_nil ?_
    | refine XC_seq ?_
    | refine XT_seq ?_
    | refine Y_res (r_assign rfl) rfl ?_
    | refine Y_res (r_gtr rfl rfl) rfl ?_
    | refine Y_res (r_len rfl) rfl ?_
    | refine Y_res (r_loadB rfl rfl) rfl ?_
  refine XC_condP rfl (fun hlong => ?_) (fun hshort => ?_)
  · repeat first
      | refine XC_region ?_
      | refine Y_res (r_loadB rfl rfl) rfl ?_
      | refine X_tells (g := 14) (E := 5) (k := .u8) (z := sumS KS k) rfl rfl (fun w1 hM => sum_any KS k _ _ w1 (by first | exact Rds.old (by assumption) hM old_false | exact rds_sl (PkS.has inferInstance hM)) (by omega) (hK.keep hM.chg (fun h => h))) ?_
    intro KA KC kk hkk
    repeat first
      | refine XC_region ?_
      | refine X_nil ?_
      | refine XC_seq ?_
      | refine XT_seq ?_
      | refine Y_res (r_move rfl) rfl ?_
      | refine Y_res (r_assign rfl) rfl ?_
      | refine Y_res (r_makeFunc rfl) rfl ?_
      | refine X_storeB rfl rfl rfl (by exact Nat.zero_lt_one) ?_
    generalize hcs : [Ch.sl KA KC 5 .u8 kk, Ch.blk g ([Value.slice A k.length c].set 0 (Value.slice KA kk.length KC)) 25] = cs at *
    have hcell : ∀ w', Hp w (fun _ => False) cs w' → w'.cell? ⟨g, 0, none⟩ = some (.slice KA kk.length KC) := fun w' h => by
      subst hcs
      have e : w'.heap[g]? = some (.cells #[Value.slice KA kk.length KC] 25 (0, 0)) := h.tail.head
      simp [World.cell?, e]
    have hrk : ∀ w', Hp w (fun _ => False) cs w' → Rds w' KA KC .u8 kk := fun w' h => by
      subst hcs
      exact rds_sl h.head
    replace hkk : kk = keyS k := by rw [hkk, keyS, if_pos (by omega)]
    have hkl : kk.length ≤ 64 := by rw [hkk]; exact keyS_len k
    have hp92 := pdf_len 92 kk hkl
    have hp54 := pdf_len 54 kk hkl
    refine X_callV (g := 23) (vs := [_]) (cs := [_]) rfl rfl rfl (fun w1 h1 => (pad_any 92 kk g KA KC w1 (hcell w1 h1) (hrk w1 h1) hkl).mono ?_)
    rintro e w2 ⟨g1, rs1, rfl, h2, hg1⟩
    refine ⟨_, rfl, _, h1.frame0 h2, ?_⟩
    simp only [List.cons_append, List.nil_append]
    clear h1 h2 hg1
    repeat first
      | refine Y_res (r_move rfl) rfl ?_
    refine X_callV (g := 23) (vs := [_]) (cs := [_]) rfl rfl rfl (fun w1 h1 => (pad_any 54 kk g KA KC w1 (hcell w1 h1.tail) (hrk w1 h1.tail) hkl).mono ?_)
    rintro e w2 ⟨g2, rs2, rfl, h2, hg2⟩
    refine ⟨_, rfl, _, h1.frame0 h2, ?_⟩
    simp only [List.cons_append, List.nil_append]
    clear h1 h2 hg2
    repeat first
      | refine Y_res (r_move rfl) rfl ?_
    refine X_appendE (k := .u8) (xs := pdf 54 kk) (ys := m) rfl rfl (fun w' h => rds_hd h.head (by omega) (by decide)) (fun w' h => hr2.old h old_false) hp54.symm rfl hp54.symm (by omega) (by omega) (by omega) rfl (fun A5 c5 cs5 hr5 hd5 => ?_)
    have hl5 : (pdf 54 kk ++ m).length ≤ 20000 := by rw [List.length_append]; omega
    skip
    refine X_tells (g := 14) (E := 5) (k := .u8) (z := sumS KS (pdf 54 kk ++ m)) rfl rfl (fun w1 hM => sum_any KS _ _ _ w1 (hr5 w1 hM) (by omega) (hK.keep hM.chg (fun h => h))) ?_
    intro A6 c6 x6 h6
    have hx6 : x6.length = 32 := by rw [h6, sumS_len]
    skip
    refine X_appendE (k := .u8) (xs := pdf 92 kk) (ys := x6) rfl rfl (fun w' h => rds_hd (hd5 w' h.tail).tail.head (by omega) (by decide)) (fun w' h => rds_sl h.head) hp92.symm rfl hp92.symm (by omega) (by omega) (by omega) rfl (fun A7 c7 cs7 hr7 hd7 => ?_)
    have hl7 : (pdf 92 kk ++ x6).length ≤ 20000 := by rw [List.length_append]; omega
    skip
    refine X_tells (g := 14) (E := 5) (k := .u8) (z := sumS KS (pdf 92 kk ++ x6)) rfl rfl (fun w1 hM => sum_any KS _ _ _ w1 (hr7 w1 hM) (by omega) (hK.keep hM.chg (fun h => h))) ?_
    intro A8 c8 x8 h8
    obtain rfl : x8 = macS k m := by rw [h8, h6, hkk]; rfl
    repeat first
      | refine X_nil ?_
      | refine XT_seq ?_
      | refine XC_ret ?_
      | refine Y_res (r_assign rfl) rfl ?_
    exact XT_tells (.inl rfl) Tryd.results16 rfl rfl
  · repeat first
      | refine XC_region ?_
      | refine X_nil ?_
      | refine XC_seq ?_
      | refine XT_seq ?_
      | refine XC_skip ?_
      | refine Y_res (r_move rfl) rfl ?_
      | refine Y_res (r_assign rfl) rfl ?_
      | refine Y_res (r_makeFunc rfl) rfl ?_
    obtain ⟨kk, hkk0⟩ : ∃ kk, kk = k := ⟨_, rfl⟩
    obtain ⟨KA, hKA⟩ : ∃ KA, KA = A := ⟨_, rfl⟩
    obtain ⟨KC, hKC⟩ : ∃ KC, KC = c := ⟨_, rfl⟩
    generalize hcs : [Ch.blk g [Value.slice A k.length c] 25] = cs at *
    have hcell : ∀ w', Hp w (fun _ => False) cs w' → w'.cell? ⟨g, 0, none⟩ = some (.slice KA kk.length KC) := fun w' h => by
      subst hcs hkk0 hKA hKC
      have e : w'.heap[g]? = some (.cells #[Value.slice KA kk.length KC] 25 (0, 0)) := h.head
      simp [World.cell?, e]
    have hrk : ∀ w', Hp w (fun _ => False) cs w' → Rds w' KA KC .u8 kk := fun w' h => by
      subst hkk0 hKA hKC
      exact hr.old h old_false
    have hkk : kk = keyS k := by rw [hkk0, keyS, if_neg (by omega)]
    have hkl : kk.length ≤ 64 := by rw [hkk]; exact keyS_len k
    have hp92 := pdf_len 92 kk hkl
    have hp54 := pdf_len 54 kk hkl
    refine X_callV (g := 23) (vs := [_]) (cs := [_]) rfl rfl rfl (fun w1 h1 => (pad_any 92 kk g KA KC w1 (hcell w1 h1) (hrk w1 h1) hkl).mono ?_)
    rintro e w2 ⟨g1, rs1, rfl, h2, hg1⟩
    refine ⟨_, rfl, _, h1.frame0 h2, ?_⟩
    simp only [List.cons_append, List.nil_append]
    clear h1 h2 hg1
    repeat first
      | refine Y_res (r_move rfl) rfl ?_
    refine X_callV (g := 23) (vs := [_]) (cs := [_]) rfl rfl rfl (fun w1 h1 => (pad_any 54 kk g KA KC w1 (hcell w1 h1.tail) (hrk w1 h1.tail) hkl).mono ?_)
    rintro e w2 ⟨g2, rs2, rfl, h2, hg2⟩
    refine ⟨_, rfl, _, h1.frame0 h2, ?_⟩
    simp only [List.cons_append, List.nil_append]
    clear h1 h2 hg2
    repeat first
      | refine Y_res (r_move rfl) rfl ?_
    refine X_appendE (k := .u8) (xs := pdf 54 kk) (ys := m) rfl rfl (fun w' h => rds_hd h.head (by omega) (by decide)) (fun w' h => hr2.old h old_false) hp54.symm rfl hp54.symm (by omega) (by omega) (by omega) rfl (fun A5 c5 cs5 hr5 hd5 => ?_)
    have hl5 : (pdf 54 kk ++ m).length ≤ 20000 := by rw [List.length_append]; omega
    skip
    refine X_tells (g := 14) (E := 5) (k := .u8) (z := sumS KS (pdf 54 kk ++ m)) rfl rfl (fun w1 hM => sum_any KS _ _ _ w1 (hr5 w1 hM) (by omega) (hK.keep hM.chg (fun h => h))) ?_
    intro A6 c6 x6 h6
    have hx6 : x6.length = 32 := by rw [h6, sumS_len]
    skip
    refine X_appendE (k := .u8) (xs := pdf 92 kk) (ys := x6) rfl rfl (fun w' h => rds_hd (hd5 w' h.tail).tail.head (by omega) (by decide)) (fun w' h => rds_sl h.head) hp92.symm rfl hp92.symm (by omega) (by omega) (by omega) rfl (fun A7 c7 cs7 hr7 hd7 => ?_)
    have hl7 : (pdf 92 kk ++ x6).length ≤ 20000 := by rw [List.length_append]; omega
    skip
    refine X_tells (g := 14) (E := 5) (k := .u8) (z := sumS KS (pdf 92 kk ++ x6)) rfl rfl (fun w1 hM => sum_any KS _ _ _ w1 (hr7 w1 hM) (by omega) (hK.keep hM.chg (fun h => h))) ?_
    intro A8 c8 x8 h8
    obtain rfl : x8 = macS k m := by rw [h8, h6, hkk]; rfl
    repeat first
      | refine X_nil ?_
      | refine XT_seq ?_
      | refine XC_ret ?_
      | refine Y_res (r_assign rfl) rfl ?_
    exact XT_tells (.inl rfl) Tryd.results16 rfl rfl
end Go.Proofs.YtjdplgjabbeejaaDoor.NSha
