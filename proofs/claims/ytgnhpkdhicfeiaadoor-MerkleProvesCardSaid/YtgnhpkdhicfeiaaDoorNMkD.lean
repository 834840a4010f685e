/- A bridge between two beginnings, verified: walked. -/
import Derived.Test.YtgnhpkdhicfeiaaDoorNMkC
namespace Go.Proofs.YtgnhpkdhicfeiaaDoor.NMk
open Go Go.RowKit Go.Proofs.YtgnhpkdhicfeiaaDoor.MX Go.Proofs.YtgnhpkdhicfeiaaDoor.PSha Go.Proofs.YtgnhpkdhicfeiaaDoor.NSha Go.Proofs.YtgnhpkdhicfeiaaDoor.PMerkle
set_option linter.unusedVariables false
set_option linter.unusedSimpArgs false
set_option linter.unusedVariables false
set_option maxRecDepth 100000 in
set_option maxHeartbeats 8000000 in
theorem grown_any (first second : List Int) (Br : List (List Int)) (m n : Nat) (F R Ap : Option Addr) (cf cr cp : Nat) (w : World) (hf : Rds w F cf .u8 first) (hr : Rds w R cr .u8 second) (hp : LLs .u8 w Ap cp Br) (hf32 : first.length = 32) (hr32 : second.length = 32) (hp32 : ∀ x ∈ Br, x.length = 32) (h0 : 0 < m) (hm : m < n) (hn : n ≤ 100)
    (c : List Int) (rest : List (List Int)) (hb : (if m = 2 ^ Nat.log2 m then first :: Br else Br) = c :: rest) (hg : gr rest (strip1 (m - 1) (n - 1)).1 (strip1 (m - 1) (n - 1)).2 c c = some (0, 0, first, second)) (hbl : Br.length ≤ 1000) (hK : KAt KS w) :
    Calls Tryd.prog 24 #[.int .i64 m, .int .i64 n, .slice F first.length cf, .slice R second.length cr, .slice Ap Br.length cp] w (Says w (.bool true)) := by
  have hpl := hp.le
  have hpc := hp.cap
  have hc32 : ∀ x ∈ c :: rest, x.length = 32 := by
    rw [← hb]
    split
    · intro x hx
      rcases List.mem_cons.1 hx with rfl | hx
      · exact hf32
      · exact hp32 x hx
    · exact hp32
  refine calls_of_X (vs := [_, _, _, _, _]) (M := Hp w (fun _ => False) []) Tryd.func24 rfl Tryd.ntmps24 rfl (Hp.nil _ _) ?_
  repeat first
    | refine XC_region ?_
    | refine X_nil ?_
    | refine XC_seq ?_
    | refine XT_seq ?_
    | refine XC_block ?_
    | refine Y_res (r_move rfl) rfl ?_
    | refine Y_res (r_assign rfl) rfl ?_
    | refine Y_res (r_lss rfl rfl) rfl ?_
    | refine Y_res (r_gtr rfl rfl) rfl ?_
    | refine Y_on rfl rfl ?_
    | refine Y_res (r_pickF rfl rfl) rfl ?_
    | refine Y_splitF rfl rfl (by omega) ?_
    | (refine X_buildV rfl rfl (fun u hu => by simp at hu; rcases hu with h | h <;> rw [h] <;> rfl) rfl (by simp) rfl ?_; intro _ _)
  rename_i g1 hg1
  refine Y_says (g := 36) rfl rfl (fun w1 q1 => sized_any [first, second] _ _ w1 (lls_blk q1.head (Nat.le_refl 2) (by decide) (fun i l hi => by
        match i, hi with
        | 0, hi => obtain rfl := Option.some.inj hi; exact ⟨_, _, rfl, hf.old q1 old_false⟩
        | 1, hi => obtain rfl := Option.some.inj hi; exact ⟨_, _, rfl, hr.old q1 old_false⟩)) (fun x hx => by simp at hx; rcases hx with rfl | rfl <;> assumption)) ?_
  repeat first
    | refine Y_res (r_move rfl) rfl ?_
    | refine Y_on rfl rfl ?_
    | refine Y_res (r_notB rfl) rfl ?_
    | refine Y_res (r_pickF rfl rfl) rfl ?_
  refine Y_says (g := 36) rfl rfl (fun w1 q1 => sized_any Br _ _ w1 (hp.keep q1.chg (fun _ h => h)) hp32) ?_
  repeat first
    | refine XC_region ?_
    | refine X_nil ?_
    | refine XC_condF rfl ?_
    | refine XC_seq ?_
    | refine XT_seq ?_
    | refine Y_res (r_move rfl) rfl ?_
    | refine Y_res (r_assign rfl) rfl ?_
    | refine Y_res (r_eql rfl rfl) rfl ?_
    | refine Y_on rfl rfl ?_
    | refine Y_res (r_notB rfl) rfl ?_
    | refine Y_res (r_pickF rfl rfl) rfl ?_
  refine XC_condP rfl (fun hx => absurd hx (by omega)) (fun _ => ?_)
  repeat first
    | refine XC_region ?_
    | refine X_nil ?_
    | refine XC_seq ?_
    | refine XT_seq ?_
    | refine Y_res (r_move rfl) rfl ?_
    | refine Y_res (r_assign rfl) rfl ?_
    | refine Y_res (r_eql rfl rfl) rfl ?_
  refine XC_condP rfl (fun hx => absurd hx (by omega)) (fun _ => ?_)
  repeat first
    | refine XC_region ?_
    | refine X_nil ?_
    | refine XC_seq ?_
    | refine XT_seq ?_
    | refine XT_block_normal ?_
    | refine XC_skip ?_
    | refine Y_res (r_move rfl) rfl ?_
    | refine Y_res (r_sub64 rfl rfl (by omega)) rfl ?_
    | refine Y_res (r_and rfl rfl) rfl ?_
    | refine Y_res (r_eql rfl rfl) rfl ?_
  refine XC_mid (ι := World × Option Addr × Nat) (fun s => Chg (fun _ => False) w s.1 ∧ LLs .u8 s.1 s.2.1 s.2.2 (c :: rest)) (fun s => [(0, .int .i64 m), (1, .int .i64 n), (2, .slice F first.length cf), (3, .slice R second.length cr), (4, .slice s.2.1 (c :: rest).length s.2.2)]) (fun s => Hp s.1 (fun _ => False) []) ?_ ?_
  · have hpf := pow_fact0 m (by omega) (by omega)
    refine XC_condP rfl (fun hz => ?_) (fun hz => ?_)
    · rw [if_pos (hpf.1 hz)] at hb
      obtain ⟨vs, hv1, hv2, hv3⟩ := lls_toV hp
      repeat first
        | refine XC_region ?_
        | refine Y_res (r_move rfl) rfl ?_
        | (refine X_buildV rfl rfl (fun u hu => by simp at hu; rw [hu]; rfl) rfl (by simp) rfl ?_; intro _ _)
        | (refine X_buildV rfl rfl (fun u hu => by simp at hu; rcases hu with h | h <;> rw [h] <;> rfl) rfl (by simp) rfl ?_; intro _ _)
      rename_i g2 hg2 g3 hg3
      refine X_call (g := 38) rfl rfl (fun w3 q3 => (conc_any [⟨some ⟨g2, 0, none⟩, 1, 1, [.slice F first.length cf]⟩, ⟨Ap, cp, Br.length, vs⟩] (some ⟨g3, 0, none⟩) 2 w3 (rdv_blk (r := []) q3.head (List.append_nil _).symm rfl (Nat.le_refl _) (by decide))
        (fun it hit => by
          simp at hit
          rcases hit with rfl | rfl
          · exact rdv_blk (r := []) q3.tail.head (List.append_nil _).symm rfl (Nat.le_refl 1) (show (1 : Nat) ≤ 9223372036854775807 by decide)
          · exact RdV.old hv1 q3 old_false)
        (fun it hit v hv => by
          simp at hit
          rcases hit with rfl | rfl
          · simp at hv; rw [hv]; rfl
          · exact hv2 v hv) (by simp; omega) (by simp; omega)).mono ?_)
      rintro e w4 ⟨A2, c2, rfl, h4⟩
      have k4 : Chg (fun _ => False) w w4 := q3.chg.over h4.chg (fun _ _ h => h)
      have hv0 := hv1.len
      have hLL : LLs .u8 w4 A2 c2 (first :: Br) := lls_sv h4.head (by simp; omega) (fun i l hi => by
        cases i with
        | zero =>
          obtain rfl := Option.some.inj hi
          exact ⟨F, cf, rfl, hf.keep k4 old_false⟩
        | succ i =>
          obtain ⟨B, d, e1, e2⟩ := hv3 i l hi
          exact ⟨B, d, (by simpa using e1), e2.keep k4 old_false⟩)
      rw [hb] at hLL
      have hlen : (1 + Br.length : Nat) = (c :: rest).length := by rw [← hb]; simp; omega
      refine ⟨_, rfl, Hp w4 (fun _ => False) [], Hp.nil _ _, ?_⟩
      rw [show ([⟨some ⟨g2, 0, none⟩, 1, 1, [.slice F first.length cf]⟩, ⟨Ap, cp, Br.length, vs⟩].map It.l).sum = (c :: rest).length by rw [← hlen]; simp]
      clear h4
      repeat first
        | refine X_nil ?_
        | refine Y_res (r_assign rfl) rfl ?_
      exact XT_mid (w4, A2, c2) ⟨k4, hLL⟩ ⟨rfl, rfl, rfl, rfl, rfl, trivial⟩ (fun _ h => h)
    · rw [if_neg (fun h => hz (hpf.2 h))] at hb
      subst hb
      repeat first
        | refine XC_skip ?_
      exact XT_mid (w, Ap, cp) ⟨Chg.refl _ _, hp⟩ ⟨rfl, rfl, rfl, rfl, rfl, trivial⟩ (fun _ h => h.none)
  rintro ⟨w1, A1, c1⟩ ⟨hch, hL⟩
  dsimp only at hch hL ⊢
  have hLl := hL.le
  have hLc := hL.cap
  have hlc : (c :: rest).length = rest.length + 1 := rfl
  repeat first
    | refine XC_region ?_
    | refine X_nil ?_
    | refine XC_condF rfl ?_
    | refine XC_seq ?_
    | refine XT_seq ?_
    | refine XC_block ?_
    | refine XC_skip ?_
    | refine Y_res (r_move rfl) rfl ?_
    | refine Y_res (r_assign rfl) rfl ?_
    | refine Y_res (r_sub64 rfl rfl (by omega)) rfl ?_
    | refine Y_res (r_eql rfl rfl) rfl ?_
    | refine Y_res (r_len rfl) rfl ?_
  refine XC_re (e := 11) (v' := .int .i64 ((m - 1 : Nat) : Int)) rfl (by congr 1; omega) ?_
  refine XC_re (e := 12) (v' := .int .i64 ((n - 1 : Nat) : Int)) rfl (by congr 1; omega) ?_
  refine XC_loop (ι := Nat × Nat) (fun z => z.1 ≤ 200 ∧ z.2 ≤ 200 ∧ strip1 z.1 z.2 = strip1 (m - 1) (n - 1)) (fun z => [(2, .slice F first.length cf), (3, .slice R second.length cr), (4, .slice A1 (c :: rest).length c1), (11, .int .i64 z.1), (12, .int .i64 z.2)]) (fun _ => Hp w1 (fun _ => False) []) (fun z => z.1) (m - 1, n - 1) ⟨by dsimp only; omega, by dsimp only; omega, rfl⟩ ⟨rfl, rfl, rfl, rfl, rfl, trivial⟩ (fun _ h => h) ?_
  rintro ⟨x, y⟩ ⟨hx, hy, hst⟩
  dsimp only at hx hy hst ⊢
  repeat first
    | refine XC_region ?_
    | refine X_nil ?_
    | refine XC_seq ?_
    | refine XT_seq ?_
    | refine Y_res (r_move rfl) rfl ?_
    | refine Y_res (r_rem rfl rfl (by omega)) rfl ?_
    | refine Y_res (r_eql rfl rfl) rfl ?_
  refine XC_condP rfl (fun hod => ?_) (fun hev => ?_)
  · rw [strip1_odd (by omega)] at hst
    repeat first
      | refine XC_region ?_
      | refine X_nil ?_
      | refine XT_seq ?_
      | refine XC_block ?_
      | refine XT_block_normal ?_
      | refine XC_skip ?_
      | refine Y_res (r_move rfl) rfl ?_
      | refine Y_res (r_assign rfl) rfl ?_
      | refine Y_res (r_shr rfl rfl rfl) rfl ?_
    exact XT_round (x / 2, y / 2) ⟨by dsimp only; omega, by dsimp only; omega, hst⟩ (by dsimp only; omega) ⟨rfl, rfl, rfl, rfl, rfl, trivial⟩ (fun _ h => h)
  rw [strip1_even (by omega)] at hst
  rw [← hst] at hg
  dsimp only at hg
  clear hst
  have hA1 := hL.some (by omega)
  obtain ⟨B0, d0, hcell0, hrd0⟩ := hL.at_ 0 c rfl
  have hLd := hL.drop 1 (by simp)
  rw [show (c :: rest).drop 1 = rest from rfl] at hLd
  repeat first
    | refine XC_region ?_
    | refine XC_quietF rfl (by kernel_rfl) (by kernel_rfl) drw_hp ?_
    | refine X_nil ?_
    | refine XQ_nil ?_
    | refine XC_seq ?_
    | refine XT_seq ?_
    | refine XC_block ?_
    | refine XT_block_same rfl ?_
    | refine XT_then_exit ?_
    | refine XC_exit ?_
    | refine Y_res (r_move rfl) rfl ?_
    | refine Y_res (r_assign rfl) rfl ?_
    | refine Y_res (r_len rfl) rfl ?_
    | refine Y_res (r_cutL rfl rfl (by omega)) rfl ?_
    | refine Y_res (r_indexO rfl rfl (by omega) hA1) rfl ?_
    | refine Y_res (r_loadO rfl hcell0 (fun h => h)) rfl ?_
  generalize hcA : cutA A1 1 c1 1 = A2 at *
  have hrl : ((c :: rest).length - 1) = rest.length := rfl
  rw [hrl]
  generalize hc2 : c1 - 1 = c2 at *
  have hLdl := hLd.le
  have hLdc := hLd.cap
  have hc0 := hc32 c (by simp)
  have hrest : ∀ x ∈ rest, x.length = 32 := fun x hx => hc32 x (by simp [hx])
  have hf1 := hf.keep hch old_false
  have hr1 := hr.keep hch old_false
  have hK1 := hK.keep hch (fun h => h)
  refine XC_loop (ι := World × (Nat × Nat × Nat) × ((Option Addr × Nat) × List Int) × (Option Addr × Nat) × List Int) (fun s => Up2 w1 rest first second s.1 s.2.1.1 s.2.1.2.1 s.2.1.2.2 s.2.2.1.1.1 s.2.2.1.1.2 s.2.2.1.2 s.2.2.2.1.1 s.2.2.2.1.2 s.2.2.2.2)
    (fun s => [(2, .slice F first.length cf), (3, .slice R second.length cr), (11, .int .i64 s.2.1.2.1), (12, .int .i64 s.2.1.2.2), (13, .slice s.2.2.1.1.1 s.2.2.1.2.length s.2.2.1.1.2), (14, .slice s.2.2.2.1.1 s.2.2.2.2.length s.2.2.2.1.2), (91, .slice A2 rest.length c2), (92, .int .i64 rest.length), (93, .int .i64 s.2.1.1)])
    (fun s => Hp s.1 (fun _ => False) []) (fun s => rest.length - s.2.1.1) (w1, (0, x, y), ((B0, d0), c), (B0, d0), c) ⟨Nat.zero_le _, Chg.refl _ _, hrd0, hrd0, hc0, hc0, hg, hx, hy⟩ ⟨rfl, rfl, rfl, rfl, rfl, rfl, rfl, rfl, rfl, trivial⟩ (fun w1 h => h) ?_
  clear hg hcell0 hrd0 hev hx hy
  rintro ⟨w2, ⟨j, x, y⟩, ⟨⟨H, hc⟩, a⟩, ⟨G, gc⟩, b⟩ hU
  dsimp only at hU ⊢
  have hjl := hU.jl
  have hxl := hU.xl
  have hyl := hU.yl
  have hal := hU.ra.le
  have ha32 := hU.a32
  have hbl := hU.rb.le
  have hb32 := hU.b32
  repeat first
    | refine XC_region ?_
    | refine X_nil ?_
    | refine XC_seq ?_
    | refine XT_seq ?_
    | refine Y_res (r_lss rfl rfl) rfl ?_
  refine XC_condP rfl (fun hlt => ?_) (fun hge => ?_)
  · have hj2 : j < rest.length := by omega
    have hA := hLd.some (by omega)
    obtain ⟨p, hpj⟩ : ∃ p, rest[j]? = some p := ⟨rest[j], List.getElem?_eq_getElem hj2⟩
    obtain ⟨B, d, hcell, hrd⟩ := hLd.at_ j p hpj
    have hp1 := hrest p (List.mem_of_getElem? hpj)
    have hcell1 := cell_chg hcell hU.ch (fun h => h)
    have hrd1 := hrd.keep hU.ch old_false
    have hgo := hU.go
    rw [List.drop_eq_getElem_cons hj2, show rest[j] = p from Option.some.inj ((List.getElem?_eq_getElem hj2).symm.trans hpj)] at hgo
    have hK2 := hK1.keep hU.ch (fun h => h)
    repeat first
      | refine XC_region ?_
      | refine X_nil ?_
      | refine XC_seq ?_
      | refine XT_seq ?_
      | refine XC_block ?_
      | refine XC_skip ?_
      | refine Y_res (r_move rfl) rfl ?_
      | refine Y_res (r_assign rfl) rfl ?_
      | refine Y_res (r_eql rfl rfl) rfl ?_
      | refine Y_res (r_indexO rfl rfl hj2 hA) rfl ?_
      | refine Y_res (r_loadO rfl hcell1 (fun h => h)) rfl ?_
    have hy0 : y ≠ 0 := fun e => by
      rw [e] at hgo
      simp [gr] at hgo
    refine XC_condP rfl (fun hx => absurd (by omega) hy0) (fun _ => ?_)
    unfold gr at hgo
    rw [if_neg hy0] at hgo
    repeat first
      | refine XC_seq ?_
      | refine XT_seq ?_
      | refine XC_skip ?_
    refine XC_mid (ι := Unit) (fun _ => True) (fun _ => [(2, .slice F first.length cf), (3, .slice R second.length cr), (11, .int .i64 x), (12, .int .i64 y), (13, .slice H a.length hc), (14, .slice G b.length gc), (16, .slice B p.length d), (91, .slice A2 rest.length c2), (92, .int .i64 rest.length), (93, .int .i64 j), (106, .bool (decide (x % 2 = 1 ∨ x = y)))]) (fun _ => Hp w2 (fun _ => False) []) ?_ ?_
    · repeat first
        | refine XC_region ?_
        | refine Y_res (r_move rfl) rfl ?_
        | refine Y_res (r_rem rfl rfl (by omega)) rfl ?_
        | refine Y_res (r_eql rfl rfl) rfl ?_
      refine Y_split rfl rfl (fun h1 => ?_) (fun h1 => ?_)
      · repeat first
          | refine X_nil ?_
          | refine Y_off rfl rfl rfl ?_
          | refine Y_res (r_pickT rfl rfl) rfl ?_
        refine XT_re (e := 106) (v' := .bool (decide (x % 2 = 1 ∨ x = y))) rfl (by rw [decide_eq_true (show x % 2 = 1 ∨ x = y by omega)]) ?_
        exact XT_mid () trivial ⟨rfl, rfl, rfl, rfl, rfl, rfl, rfl, rfl, rfl, rfl, rfl, trivial⟩ (fun _ h => h)
      · repeat first
          | refine X_nil ?_
          | refine Y_res (r_move rfl) rfl ?_
          | refine Y_res (r_eql rfl rfl) rfl ?_
          | refine Y_on rfl rfl ?_
          | refine Y_res (r_pickF rfl rfl) rfl ?_
        refine XT_re (e := 106) (v' := .bool (decide (x % 2 = 1 ∨ x = y))) rfl (by congr 1; rw [decide_eq_decide]; omega) ?_
        exact XT_mid () trivial ⟨rfl, rfl, rfl, rfl, rfl, rfl, rfl, rfl, rfl, rfl, rfl, trivial⟩ (fun _ h => h)
    intro _ _
    skip
    refine XC_condP rfl (fun hc1 => ?_) (fun hc1 => ?_)
    · rw [if_pos hc1] at hgo
      repeat first
        | refine XC_region ?_
        | refine XC_seq ?_
        | refine Y_res (r_move rfl) rfl ?_
      refine X_call (g := 34) rfl rfl (fun w3 q3 => (node_any p a B H d hc w3 (hrd1.old q3 old_false) (hU.ra.old q3 old_false) (by omega) (by omega) (hK2.keep q3.chg (fun h => h))).mono ?_)
      rintro e w4 ⟨v, rfl, ⟨H2, hc2', rfl, h2, h3⟩, h4⟩
      have k4 : Chg (fun _ => False) w2 w4 := q3.chg.over h4 (fun _ _ h => h)
      refine ⟨_, rfl, Hp w4 (fun _ => False) [], Hp.nil _ _, ?_⟩
      have hr4 := rds_sl h2
      clear q3 h4 h3 h2
      repeat first
        | refine Y_res (r_move rfl) rfl ?_
      refine X_call (g := 34) rfl rfl (fun w5 q5 => (node_any p b B G d gc w5 ((hrd1.keep k4 old_false).old q5 old_false) ((hU.rb.keep k4 old_false).old q5 old_false) (by omega) (by omega) ((hK2.keep k4 (fun h => h)).keep q5.chg (fun h => h))).mono ?_)
      rintro e w6 ⟨v, rfl, ⟨G2, gc2, rfl, h2, h3⟩, h4⟩
      have k6 : Chg (fun _ => False) w4 w6 := q5.chg.over h4 (fun _ _ h => h)
      refine ⟨_, rfl, Hp w6 (fun _ => False) [], Hp.nil _ _, ?_⟩
      have hr6 := rds_sl h2
      replace hr4 := hr4.keep k6 old_false
      have k26 : Chg (fun _ => False) w2 w6 := k4.over k6 (fun _ _ h => h)
      clear q5 h4 h3 h2 k4 k6
      repeat first
        | refine X_nil ?_
        | refine XT_seq ?_
        | refine XC_block ?_
        | refine Y_res (r_assign rfl) rfl ?_
      refine XC_loop (ι := Nat × Nat) (fun z => z.1 ≠ 0 ∧ z.1 ≤ 200 ∧ z.2 ≤ 200 ∧ strip0 z.1 z.2 = strip0 x y) (fun z => [(2, .slice F first.length cf), (3, .slice R second.length cr), (11, .int .i64 z.1), (12, .int .i64 z.2), (13, .slice H2 (nodeS p a).length hc2'), (14, .slice G2 (nodeS p b).length gc2), (91, .slice A2 rest.length c2), (92, .int .i64 rest.length), (93, .int .i64 j)]) (fun _ => Hp w6 (fun _ => False) []) (fun z => z.1) (x, y) ⟨by dsimp only; omega, hxl, hyl, rfl⟩ ⟨rfl, rfl, rfl, rfl, rfl, rfl, rfl, rfl, rfl, trivial⟩ (fun _ h => h) ?_
      rintro ⟨x1, y1⟩ ⟨hx1, hx2, hy2, hst⟩
      dsimp only at hx1 hx2 hy2 hst ⊢
      repeat first
        | refine XC_region ?_
        | refine XC_seq ?_
        | refine Y_res (r_move rfl) rfl ?_
        | refine Y_res (r_rem rfl rfl (by omega)) rfl ?_
        | refine Y_res (r_eql rfl rfl) rfl ?_
      refine Y_split rfl rfl (fun hev => ?_) (fun hod => ?_)
      · rw [strip0_even (by omega) hx1] at hst
        repeat first
          | refine X_nil ?_
          | refine XT_seq ?_
          | refine Y_res (r_move rfl) rfl ?_
          | refine Y_res (r_neq rfl rfl) rfl ?_
          | refine Y_on rfl rfl ?_
          | refine Y_res (r_pickT rfl rfl) rfl ?_
        refine XC_condP rfl (fun _ => ?_) (fun hx => absurd (show ((x1 : Nat) : Int) ≠ 0 by omega) hx)
        repeat first
          | refine XC_region ?_
          | refine X_nil ?_
          | refine XT_seq ?_
          | refine XC_block ?_
          | refine XT_block_normal ?_
          | refine XC_skip ?_
          | refine Y_res (r_move rfl) rfl ?_
          | refine Y_res (r_assign rfl) rfl ?_
          | refine Y_res (r_shr rfl rfl rfl) rfl ?_
        exact XT_round (x1 / 2, y1 / 2) ⟨by dsimp only; omega, by dsimp only; omega, by dsimp only; omega, hst⟩ (by dsimp only; omega) ⟨rfl, rfl, rfl, rfl, rfl, rfl, rfl, rfl, rfl, trivial⟩ (fun _ h => h)
      · rw [strip0_odd (by omega)] at hst
        rw [← hst] at hgo
        repeat first
          | refine XC_region ?_
          | refine X_nil ?_
          | refine XC_condF rfl ?_
          | refine XT_seq ?_
          | refine XT_block_normal ?_
          | refine XT_block_same rfl ?_
          | refine XT_then_exit ?_
          | refine XC_exit ?_
          | refine Y_res (r_move rfl) rfl ?_
          | refine Y_res (r_assign rfl) rfl ?_
          | refine Y_res (r_add64 rfl rfl (by omega)) rfl ?_
          | refine Y_res (r_shr rfl rfl rfl) rfl ?_
          | refine Y_off rfl rfl rfl ?_
          | refine Y_res (r_pickF rfl rfl) rfl ?_
        exact XT_round (w6, (j + 1, x1 / 2, y1 / 2), ((H2, hc2'), nodeS p a), (G2, gc2), nodeS p b) ⟨by dsimp only; omega, hU.ch.over k26 (fun _ _ h => h), hr4, hr6, rfl, rfl, hgo, by dsimp only; omega, by dsimp only; omega⟩ (by dsimp only; omega) ⟨rfl, rfl, rfl, rfl, rfl, rfl, rfl, rfl, rfl, trivial⟩ (fun _ h => h)
    · rw [if_neg hc1] at hgo
      repeat first
        | refine XC_region ?_
        | refine Y_res (r_move rfl) rfl ?_
      refine X_call (g := 34) rfl rfl (fun w3 q3 => (node_any b p G B gc d w3 (hU.rb.old q3 old_false) (hrd1.old q3 old_false) (by omega) (by omega) (hK2.keep q3.chg (fun h => h))).mono ?_)
      rintro e w4 ⟨v, rfl, ⟨G2, gc2, rfl, h2, h3⟩, h4⟩
      have k4 : Chg (fun _ => False) w2 w4 := q3.chg.over h4 (fun _ _ h => h)
      refine ⟨_, rfl, Hp w4 (fun _ => False) [], Hp.nil _ _, ?_⟩
      have hr4 := rds_sl h2
      clear q3 h4 h3 h2
      repeat first
        | refine XC_region ?_
        | refine X_nil ?_
        | refine XT_seq ?_
        | refine XT_block_normal ?_
        | refine Y_res (r_move rfl) rfl ?_
        | refine Y_res (r_assign rfl) rfl ?_
        | refine Y_res (r_add64 rfl rfl (by omega)) rfl ?_
        | refine Y_res (r_shr rfl rfl rfl) rfl ?_
      exact XT_round (w4, (j + 1, x / 2, y / 2), ((H, hc), a), (G2, gc2), nodeS b p) ⟨by dsimp only; omega, hU.ch.over k4 (fun _ _ h => h), hU.ra.keep k4 old_false, hr4, ha32, rfl, hgo, by dsimp only; omega, by dsimp only; omega⟩ (by dsimp only; omega) ⟨rfl, rfl, rfl, rfl, rfl, rfl, rfl, rfl, rfl, trivial⟩ (fun _ h => h)
  · have hjP : j = rest.length := by omega
    have hgo := hU.go
    rw [hjP, List.drop_length] at hgo
    simp only [gr, Option.some.injEq, Prod.mk.injEq] at hgo
    obtain ⟨rfl, rfl, rfl, rfl⟩ := hgo
    have hrw := hr1.keep hU.ch old_false
    have hfw := hf1.keep hU.ch old_false
    repeat first
      | refine XC_region ?_
      | refine XC_seq ?_
      | refine XT_seq ?_
      | refine XT_block_same rfl ?_
      | refine XT_then_exit ?_
      | refine XC_exit ?_
      | refine Y_res (r_move rfl) rfl ?_
      | refine Y_res (r_eql rfl rfl) rfl ?_
      | refine Y_on rfl rfl ?_
    refine Y_says (g := 37) rfl rfl (fun w3 hM => equal_any a a H F hc cf w3 (hU.ra.old hM old_false) (hfw.old hM old_false) rfl) ?_
    repeat first
      | refine Y_res (r_move rfl) rfl ?_
      | refine Y_on rfl rfl ?_
      | refine Y_res (r_pickT rfl rfl) rfl ?_
    refine Y_says (g := 37) rfl rfl (fun w3 hM => equal_any b b G R gc cr w3 (hU.rb.old hM old_false) (hrw.old hM old_false) rfl) ?_
    repeat first
      | refine X_nil ?_
      | refine XT_seq ?_
      | refine XC_ret ?_
      | refine Y_res (r_assign rfl) rfl ?_
      | refine Y_res (r_pickT rfl rfl) rfl ?_
    exact XT_ret1 (.inl rfl) Tryd.results24 rfl (fun w' h => ⟨rfl, hch.over (hU.ch.over h.chg (fun _ _ h => h)) (fun _ _ h => h)⟩)
end Go.Proofs.YtgnhpkdhicfeiaaDoor.NMk
