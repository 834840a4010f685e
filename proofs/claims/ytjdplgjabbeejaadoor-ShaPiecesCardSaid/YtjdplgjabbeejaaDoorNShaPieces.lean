/- ShaPieces, walked: true at every input. -/
import Derived.Test.YtjdplgjabbeejaaDoorNSha5
import Derived.Test.YtjdplgjabbeejaaDoorMXO
namespace Go.Proofs.YtjdplgjabbeejaaDoor.NSha
open Go Go.RowKit Go.Proofs.YtjdplgjabbeejaaDoor.MX Go.Proofs.YtjdplgjabbeejaaDoor.PSha
set_option linter.unusedVariables false
set_option linter.unusedSimpArgs false
set_option linter.unusedVariables false
def shPieces := shSl Tryd.underlying31 (shSl Tryd.underlying25 (shInt .u8 Tryd.underlying5))
abbrev PcD := Option Addr × Nat × List Int
theorem pieces_at {w : World} {l : List PcD} {A : Option Addr} {c : Nat} (h : shPieces.has w [.slice A l.length c] (A, c, l)) :
    (0 < l.length → A = some (adOf A)) ∧ l.length ≤ c ∧ ∀ j o, l[j]? = some o → w.cell? ((adOf A).add (j * 1)) = some (.slice o.1 o.2.2.length o.2.1) ∧ Rds w o.1 o.2.1 .u8 o.2.2 ∧ o.2.1 ≤ 140737488355327 ∧ ∀ n ∈ o.2.2, (Lit.int .u8 n).wf = true := by
  have h0 := h
  obtain ⟨h1, h2, h3, h4, h6, h5⟩ := h
  refine ⟨fun hp => ?_, h2, fun j o hj => ?_⟩
  · cases A with
    | none => have := h4 rfl; dsimp only at this h2; omega
    | some a => rfl
  obtain ⟨v, g1, g2⟩ := shSl_cell (by kernel_rfl) h0 hj
  obtain ⟨r1, r2, r3⟩ := shSl_ints (by kernel_rfl) g2
  obtain rfl := (List.cons.inj r1).1
  refine ⟨by rw [Nat.mul_one]; exact g1, r2, ?_, r3⟩
  have e1 : Tryd.prog.bytesOf 5 = 1 := by kernel_rfl
  have := Nat.le_trans g2.2.2.2.2.1 reach_bd
  rw [e1, Nat.mul_one] at this
  exact this
set_option maxHeartbeats 4000000 in
set_option maxRecDepth 100000 in
theorem pieces_any (l : List PcD) (A : Option Addr) (c : Nat) (w : World) (h : shPieces.has w [.slice A l.length c] (A, c, l)) (hK : KAt KS w) :
    Calls Tryd.prog 4 #[.slice A l.length c] w fun e w' => e = .returned (.bool true) ∧ Chg (fun _ => False) w w' := by
  obtain ⟨hA, hlc, hops⟩ := pieces_at h
  have hops := Lib.hid hops
  clear h
  have hpos := hK.pos
  refine calls_of_X (Rr := Says w (.bool true)) (vs := [_]) (M := Hp w (fun _ => False) []) Tryd.func4 rfl Tryd.ntmps4 rfl (Hp.nil _ _) ?_
  repeat first
    | refine XC_region ?_
    | refine X_nil ?_
    | refine XC_condF rfl ?_
    | refine XC_seq ?_
    | refine XT_seq ?_
    | refine XC_skip ?_
    | refine Y_res (r_move rfl) rfl ?_
    | refine Y_res (r_assign rfl) rfl ?_
    | refine Y_res (r_gtr rfl rfl) rfl ?_
    | refine Y_res (r_notB rfl) rfl ?_
    | refine Y_res (r_len rfl) rfl ?_
    | refine Y_call (g := 8) rfl rfl (fun w1 hM => (anchor_any w1 (hK.keep hM.chg (fun h => h))).mono fun e w2 h => ⟨h.1, hM.keep h.2⟩) ?_
  refine XC_condP rfl (fun _ => ?_) (fun hfew => ?_)
  · repeat first
      | refine XC_region ?_
      | refine X_nil ?_
      | refine XC_seq ?_
      | refine XT_seq ?_
      | refine XT_then_ret ?_
      | refine XC_ret ?_
      | refine Y_res (r_assign rfl) rfl ?_
    exact XT_says (.inl rfl) Tryd.results4 rfl rfl
  repeat first
    | refine XC_region ?_
    | refine XC_seq ?_
    | refine XT_seq ?_
    | refine XC_skip ?_
  refine X_call (g := 9) rfl rfl (fun w1 h1 => (new_any KS w1).mono ?_)
  rintro e w2 ⟨g, rfl, hg, h2, hc2⟩
  have hgw : w.heap.size ≤ g := Nat.le_trans h1.chg.size hg
  refine ⟨_, rfl, _, h1.add (d := HAt KS g []) hc2 h2 (fun k hk => by rw [show k = g from hk]; exact hg), ?_⟩
  clear h1 h2 hc2
  repeat first
    | refine XC_region ?_
    | refine X_nil ?_
    | refine XC_condF rfl ?_
    | refine XC_seq ?_
    | refine XT_seq ?_
    | refine XC_block ?_
    | refine XC_skip ?_
    | refine Y_res (r_move rfl) rfl ?_
    | refine Y_res (r_assign rfl) rfl ?_
    | refine Y_res (r_eqlNil rfl rfl) rfl ?_
    | refine Y_res (r_len rfl) rfl ?_
  refine XC_mem (M' := Hp w (fun _ => False) [Ch.sl none 0 5 .u8 [], HAt KS g []]) (fun _ h => h.nilS) ?_
  refine XC_loop (ι := Nat × List Int × Option Addr × Nat) (fun p => p.1 ≤ l.length ∧ p.2.1.length ≤ 3000) (fun p => [(3, .pointer (some ⟨g, 0, none⟩)), (4, .slice p.2.2.1 p.2.1.length p.2.2.2), (19, .slice A l.length c), (20, .int .i64 l.length), (21, .int .i64 p.1)])
    (fun p => Hp w (fun _ => False) [Ch.sl p.2.2.1 p.2.2.2 5 .u8 p.2.1, HAt KS g p.2.1]) (fun p => l.length - p.1) (0, [], none, 0) ⟨Nat.zero_le _, by simp⟩ ⟨rfl, rfl, rfl, rfl, rfl, trivial⟩ (fun _ h => h) ?_
  rintro ⟨i, all, Aa, ca⟩ ⟨hi, hal⟩
  dsimp only at hi hal ⊢
  repeat first
    | refine XC_region ?_
    | refine X_nil ?_
    | refine XC_seq ?_
    | refine XT_seq ?_
    | refine Y_res (r_lss rfl rfl) rfl ?_
  refine XC_condP rfl (fun hlt => ?_) (fun hge => ?_)
  · have hi2 : i < l.length := by omega
    have hA1 := hA (by omega)
    obtain ⟨o, ho⟩ : ∃ o, l[i]? = some o := ⟨l[i], List.getElem?_eq_getElem hi2⟩
    obtain ⟨hcell, hrd, hdm, hwd⟩ := hops.out i o ho
    obtain ⟨PA, pc, p⟩ := o
    dsimp only at hcell hrd hdm hwd
    have hpl := hrd.le
    repeat first
      | refine XC_region ?_
      | refine X_nil ?_
      | refine XC_seq ?_
      | refine XT_seq ?_
      | refine XC_block ?_
      | refine XC_skip ?_
      | refine Y_res (r_move rfl) rfl ?_
      | refine Y_res (r_assign rfl) rfl ?_
      | refine Y_res (r_add64 rfl rfl (by omega)) rfl ?_
      | refine Y_res (r_gtr rfl rfl) rfl ?_
      | refine Y_res (r_len rfl) rfl ?_
      | refine Y_res (r_indexRs rfl rfl hA1 hi2) rfl ?_
      | refine Y_res (r_loadO rfl hcell (fun h => h)) rfl ?_
    refine XC_condP rfl (fun _ => ?_) (fun hbig => ?_)
    · repeat first
        | refine XC_region ?_
        | refine X_nil ?_
        | refine XC_seq ?_
        | refine XT_seq ?_
        | refine XT_block_ret ?_
        | refine XT_then_ret ?_
        | refine XC_ret ?_
        | refine Y_res (r_assign rfl) rfl ?_
      exact XT_says (.inl rfl) Tryd.results4 rfl rfl
    have hsum : all.length + p.length ≤ 3000 := by omega
    repeat first
      | refine XC_region ?_
      | refine X_nil ?_
      | refine XC_seq ?_
      | refine XT_seq ?_
      | refine XC_skip ?_
      | refine Y_res (r_move rfl) rfl ?_
      | refine Y_res (r_assign rfl) rfl ?_
      | refine Y_res (r_add64 rfl rfl (by omega)) rfl ?_
      | refine Y_res (r_len rfl) rfl ?_
      | (refine X_make rfl rfl (by omega) (by omega) (by omega) rfl ?_; intro _ _)
      | (refine X_append rfl rfl (fun w_ hM => (by first | exact Rds.old (by assumption) hM old_false | exact rds_sl (PkS.has inferInstance hM))) rfl rfl rfl (by first | omega | (simp only [List.length_replicate]; omega)) (by first | omega | (simp only [List.length_replicate]; omega)) rfl ?_; intro _ _; simp only [List.replicate_zero, List.nil_append])
    rename_i gm hgm Ag cg
    refine X_call (g := 10) rfl rfl (fun w1 h1 => (write_any KS g all p Ag cg w1 h1.tail.tail.head (rds_sl h1.head) (fun hp ad e => ?_) (by omega) (by omega) (hK.keep h1.chg (fun h => h))).mono ?_)
    · exact (List.pairwise_cons.1 h1.sep).1 (HAt KS g all) (by simp) ad.block (by rw [e]; rfl)
    rintro e w2 ⟨rfl, h2, hc2⟩
    refine ⟨_, rfl, _, (h1.rot3.turn (d := HAt KS g (all ++ p)) hc2 h2 (fun k hk => .inl hk)), ?_⟩
    clear h1 h2 hc2
    have hal2 : (all ++ p).length ≤ 3000 := by rw [List.length_append]; omega
    repeat first
      | refine XC_region ?_
      | refine X_nil ?_
      | refine XC_seq ?_
      | refine XT_seq ?_
      | refine XC_block ?_
      | refine Y_res (r_move rfl) rfl ?_
      | refine Y_res (r_assign rfl) rfl ?_
      | refine Y_res (r_len rfl) rfl ?_
      | (refine X_append rfl rfl (fun w_ hM => (by first | exact Rds.old (by assumption) hM old_false | exact rds_sl (PkS.has inferInstance hM))) rfl rfl rfl (by omega) (by omega) rfl ?_; intro _ _)
    rename_i A9 c9
    obtain ⟨all2, hall2⟩ : ∃ z, z = all ++ p := ⟨_, rfl⟩
    rw [← hall2] at hal2 ⊢
    refine XC_loop (ι := Nat × List Int) (fun q => q.1 ≤ p.length ∧ q.2.length = p.length) (fun q => [(3, .pointer (some ⟨g, 0, none⟩)), (4, .slice A9 all2.length c9), (7, .slice Ag p.length cg), (19, .slice A l.length c), (20, .int .i64 l.length), (21, .int .i64 i), (44, .int .i64 p.length), (45, .int .i64 q.1)])
      (fun q => Hp w (fun _ => False) [HAt KS g all2, Ch.sl Ag cg 5 .u8 q.2, Ch.sl A9 c9 5 .u8 all2]) (fun q => p.length - q.1) (0, p) ⟨Nat.zero_le _, rfl⟩ ⟨rfl, rfl, rfl, rfl, rfl, rfl, rfl, rfl, trivial⟩ (fun _ h => h) ?_
    rintro ⟨j, gl⟩ ⟨hj, hgl⟩
    dsimp only at hj hgl ⊢
    repeat first
      | refine XC_region ?_
      | refine X_nil ?_
      | refine XC_seq ?_
      | refine XT_seq ?_
      | refine Y_res (r_lss rfl rfl) rfl ?_
    refine XC_condP rfl (fun hlt2 => ?_) (fun hge2 => ?_)
    · repeat first
        | refine XC_region ?_
        | refine X_nil ?_
        | refine XC_seq ?_
        | refine XT_seq ?_
        | refine XC_block ?_
        | refine XT_block_normal ?_
        | refine XC_skip ?_
        | refine Y_res (r_move rfl) rfl ?_
        | refine Y_res (r_assign rfl) rfl ?_
        | refine Y_res (r_add64 rfl rfl (by omega)) rfl ?_
        | refine Y_res (r_xor rfl rfl) rfl ?_
        | refine Y_res (r_indexS rfl rfl (by omega) (by first | omega | (simp only [List.length_set, List.length_replicate]; omega))) rfl ?_
        | refine Y_res (r_loadI rfl (by first | omega | (simp only [List.length_set, List.length_replicate]; omega))) rfl ?_
        | refine X_storeI rfl rfl (by first | omega | (simp only [List.length_set, List.length_replicate]; omega)) ?_
      exact XT_round (j + 1, _) ⟨by dsimp only; omega, by dsimp only; rw [List.length_set]; exact hgl⟩ (by dsimp only; omega) ⟨rfl, rfl, rfl, rfl, rfl, rfl, rfl, rfl, trivial⟩ (fun _ h => h)
    obtain rfl : j = p.length := by omega
    repeat first
      | refine XC_region ?_
      | refine XC_seq ?_
      | refine XT_seq ?_
      | refine XT_block_same rfl ?_
      | refine XT_then_exit ?_
      | refine XC_exit ?_
      | refine Y_res (r_move rfl) rfl ?_
      | (refine X_tells (g := 12) (E := 5) (k := .u8) (z := sumS KS all2) rfl rfl (fun w1 hM => hsum_any KS g all2 w1 hM.head (by omega) (hK.keep hM.chg (fun h => h))) ?_)
    intro A3 c3 x3 h3
    repeat first
      | refine XC_region ?_
      | refine X_nil ?_
      | refine XC_seq ?_
      | refine XT_seq ?_
      | refine Y_res (r_move rfl) rfl ?_
      | refine Y_res (r_assign rfl) rfl ?_
      | (refine X_tells (g := 13) (E := 5) (k := .u8) (z := sumS KS all2) rfl rfl (fun w1 hM => refsum_any all2 _ _ w1 (by first | exact Rds.old (by assumption) hM old_false | exact rds_sl (PkS.has inferInstance hM)) (by omega)) ?_)
    intro A4 c4 x4 h4
    have e34 : x3 = x4 := by rw [h3, h4]
    repeat first
      | refine Y_res (r_move rfl) rfl ?_
      | refine Y_res (r_notB rfl) rfl ?_
      | refine Y_call (g := 11) rfl rfl (fun w1 hM => (same_any _ _ _ _ _ _ w1 (by first | exact Rds.old (by assumption) hM old_false | exact rds_sl (PkS.has inferInstance hM)) (by first | exact Rds.old (by assumption) hM old_false | exact rds_sl (PkS.has inferInstance hM))).mono fun e w2 h => ⟨h.1, hM.keep h.2⟩) ?_
    simp only [decide_eq_true e34]
    repeat first
      | refine X_nil ?_
      | refine XT_seq ?_
      | refine Y_res (r_move rfl) rfl ?_
      | refine Y_res (r_neq rfl rfl) rfl ?_
      | refine Y_on rfl rfl ?_
      | refine Y_res (r_len rfl) rfl ?_
      | refine Y_res (r_pickF rfl rfl) rfl ?_
      | refine Y_call (g := 15) rfl rfl (fun w1 hM => (len_any KS g all2 w1 hM.tail.tail.head).mono fun e w2 h => ⟨h.1, hM.keep h.2⟩) ?_
    refine XC_condP rfl (fun h => absurd rfl h) (fun _ => ?_)
    have h3l : x3.length ≤ 1000 := by rw [h3]; exact Nat.le_trans (Nat.le_of_eq (sumS_len KS all2)) (by decide)
    repeat first
      | refine XC_region ?_
      | refine X_nil ?_
      | refine XC_seq ?_
      | refine XT_seq ?_
      | refine XC_block ?_
      | refine XC_skip ?_
      | refine Y_res (r_move rfl) rfl ?_
      | refine Y_res (r_len rfl) rfl ?_
    refine XC_loop (ι := Nat × List Int) (fun q => q.1 ≤ x3.length ∧ q.2.length = x3.length) (fun q => [(3, .pointer (some ⟨g, 0, none⟩)), (4, .slice A9 all2.length c9), (9, .slice A3 x3.length c3), (19, .slice A l.length c), (20, .int .i64 l.length), (21, .int .i64 i), (70, .int .i64 x3.length), (71, .int .i64 q.1)])
      (fun q => Hp w (fun _ => False) [Ch.sl A3 c3 5 .u8 q.2, HAt KS g all2, Ch.sl Ag cg 5 .u8 gl, Ch.sl A9 c9 5 .u8 all2]) (fun q => x3.length - q.1) (0, x3) ⟨Nat.zero_le _, rfl⟩ ⟨rfl, rfl, rfl, rfl, rfl, rfl, rfl, rfl, trivial⟩
      (fun _ h => h.tail) ?_
    rintro ⟨j2, sl⟩ ⟨hj2, hsl⟩
    dsimp only at hj2 hsl ⊢
    repeat first
      | refine XC_region ?_
      | refine X_nil ?_
      | refine XC_seq ?_
      | refine XT_seq ?_
      | refine Y_res (r_lss rfl rfl) rfl ?_
    refine XC_condP rfl (fun hlt3 => ?_) (fun hge3 => ?_)
    · repeat first
        | refine XC_region ?_
        | refine X_nil ?_
        | refine XC_seq ?_
        | refine XT_seq ?_
        | refine XC_block ?_
        | refine XT_block_normal ?_
        | refine XC_skip ?_
        | refine Y_res (r_move rfl) rfl ?_
        | refine Y_res (r_assign rfl) rfl ?_
        | refine Y_res (r_add64 rfl rfl (by omega)) rfl ?_
        | refine Y_res (r_indexS rfl rfl (by omega) (by first | omega | (simp only [List.length_set, List.length_replicate]; omega))) rfl ?_
        | refine X_storeI rfl rfl (by first | omega | (simp only [List.length_set, List.length_replicate]; omega)) ?_
      exact XT_round (j2 + 1, _) ⟨by dsimp only; omega, by dsimp only; rw [List.length_set]; exact hsl⟩ (by dsimp only; omega) ⟨rfl, rfl, rfl, rfl, rfl, rfl, rfl, rfl, trivial⟩ (fun _ h => h)
    repeat first
      | refine XC_region ?_
      | refine X_nil ?_
      | refine XT_seq ?_
      | refine XT_block_normal ?_
      | refine XT_block_same rfl ?_
      | refine XT_then_exit ?_
      | refine XC_exit ?_
      | refine Y_res (r_move rfl) rfl ?_
      | refine Y_res (r_add64 rfl rfl (by omega)) rfl ?_
    exact XT_round (i + 1, all2, A9, c9) ⟨by dsimp only; omega, hal2⟩ (by dsimp only; omega) ⟨rfl, rfl, rfl, rfl, rfl, trivial⟩ (fun _ h => h.tail.swap.tail.swap)
  · repeat first
      | refine XC_region ?_
      | refine XC_seq ?_
      | refine XT_seq ?_
      | refine XT_block_same rfl ?_
      | refine XT_then_exit ?_
      | refine XC_exit ?_
      | refine Y_res (r_move rfl) rfl ?_
      | (refine X_tells (g := 12) (E := 5) (k := .u8) (z := sumS KS all) rfl rfl (fun w1 hM => hsum_any KS g all w1 hM.tail.head (by omega) (hK.keep hM.chg (fun h => h))) ?_)
    intro A3 c3 x3 h3
    repeat first
      | refine Y_res (r_move rfl) rfl ?_
      | (refine X_tells (g := 13) (E := 5) (k := .u8) (z := sumS KS all) rfl rfl (fun w1 hM => refsum_any all _ _ w1 (by first | exact Rds.old (by assumption) hM old_false | exact rds_sl (PkS.has inferInstance hM)) (by omega)) ?_)
    intro A4 c4 x4 h4
    have e34 : x3 = x4 := by rw [h3, h4]
    repeat first
      | refine X_nil ?_
      | refine XT_seq ?_
      | refine XC_ret ?_
      | refine Y_res (r_assign rfl) rfl ?_
      | refine Y_call (g := 11) rfl rfl (fun w1 hM => (same_any _ _ _ _ _ _ w1 (by first | exact Rds.old (by assumption) hM old_false | exact rds_sl (PkS.has inferInstance hM)) (by first | exact Rds.old (by assumption) hM old_false | exact rds_sl (PkS.has inferInstance hM))).mono fun e w2 h => ⟨h.1, hM.keep h.2⟩) ?_
    exact XT_says (.inl rfl) Tryd.results4 rfl (by rw [decide_eq_true e34])
end Go.Proofs.YtjdplgjabbeejaaDoor.NSha
