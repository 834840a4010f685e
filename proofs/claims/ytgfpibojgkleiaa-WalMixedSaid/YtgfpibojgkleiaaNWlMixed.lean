/- WalMixed, walked: true at every input. -/
import Derived.Test.YtgfpibojgkleiaaNWlE
import Derived.Test.YtgfpibojgkleiaaNSame
import Derived.Test.YtgfpibojgkleiaaNWlF
namespace Go.Proofs.Ytgfpibojgkleiaa.NWl
open Go Go.RowKit Go.Proofs.Ytgfpibojgkleiaa.MX Go.Proofs.Ytgfpibojgkleiaa.PWal Go.Proofs.Ytgfpibojgkleiaa.NPl Go.Proofs.Ytgfpibojgkleiaa.NSame
set_option linter.unusedVariables false
set_option linter.unusedSimpArgs false
set_option linter.unusedVariables false
theorem Js.new {n to gen : Nat} (h1 : 8 ≤ n) (h2 : n ≤ 16384) (ht : to ≤ n) (ht0 : 0 < to) (hg : 1 ≤ gen ∧ gen < 2147483648) : Js 0 to gen 0 (new0 n) [] 0 :=
  ⟨ups_new h1 h2, (show (-1 : Int) < 0 by decide), ht, ht0, hg, rfl, Nat.zero_le _, ⟨fun i _ _ h => absurd h (new_gen hg.1), fun o hw => new_gen hg.1 hw.1⟩, fun i _ _ h => absurd h (new_gen hg.1)⟩
theorem Lf.armed {from_ to gen K : Nat} {q : Pl} {l : Lg} {a : La} {rs : List (List Int × Nat)} (h : Lf from_ to gen K q l a rs) (m : Int) (hm : m ≤ 9223372036854775807) : Lf from_ to gen K (armP q m) l a rs :=
  ⟨h.up.arm m hm, h.tn, h.ft, h.tt, h.gn, h.op, h.nx, h.ll, h.br, h.ld, h.lo, h.ae, h.bh, h.fr, h.ops, h.js⟩
theorem Lf.js' {from_ to gen K : Nat} {q : Pl} {l : Lg} {a a' : La} {rs : List (List Int × Nat)} (h : Lf from_ to gen K q l a rs) (hj : JOk .u8 a'.js l.list) : Lf from_ to gen K q l a' rs :=
  ⟨h.up, h.tn, h.ft, h.tt, h.gn, h.op, h.nx, h.ll, h.br, h.ld, h.lo, h.ae, h.bh, h.fr, h.ops, hj⟩
set_option maxRecDepth 100000 in
set_option maxHeartbeats 8000000 in
theorem mixed_law (m : Int) (ls : List BlD) (A : Option Addr) (c : Nat) (w : World) (hm : (Lit.int .i64 m).wf = true) (h : shBBs.has w [.slice A ls.length c] (A, c, ls)) :
    Calls Try.prog 7 #[.int .i64 m, .slice A ls.length c] w fun e w' => e = .returned (.bool true) ∧ Chg (fun _ => False) w w' := by
  have hm64 := wf64 hm
  obtain ⟨hA, hlc, hcm, hls⟩ := bbs_at h
  have hls := Lib.hid hls
  clear h
  refine calls_of_X (Rr := Says w (.bool true)) (vs := [_, _]) (M := Hp w (fun _ => False) []) Try.func7 rfl Try.ntmps7 rfl (Hp.nil _ _) ?_
  repeat first
    | refine XC_region ?_
    | refine X_nil ?_
    | refine XC_condF rfl ?_
    | refine XC_seq ?_
    | refine XT_seq ?_
    | refine XC_skip ?_
    | refine Y_res (r_move rfl) rfl ?_
    | refine Y_res (r_assign rfl) rfl ?_
    | refine Y_res (r_lss rfl rfl) rfl ?_
    | refine Y_res (r_notB rfl) rfl ?_
    | refine Y_says (g := 9) rfl rfl (fun w1 hM => anchor_any w1) ?_
  refine Y_split rfl rfl (fun h1 => ?_) (fun h1 => ?_)
  · repeat first
      | refine XC_region ?_
      | refine X_nil ?_
      | refine XC_condT rfl ?_
      | refine XC_seq ?_
      | refine XT_seq ?_
      | refine XT_then_ret ?_
      | refine XC_ret ?_
      | refine Y_res (r_move rfl) rfl ?_
      | refine Y_res (r_assign rfl) rfl ?_
      | refine Y_off rfl rfl rfl ?_
      | refine Y_res (r_pickT rfl rfl) rfl ?_
    exact XT_says (.inl rfl) Try.results7 rfl rfl
  repeat first
    | refine Y_res (r_move rfl) rfl ?_
    | refine Y_res (r_gtr rfl rfl) rfl ?_
    | refine Y_on rfl rfl ?_
    | refine Y_res (r_pickF rfl rfl) rfl ?_
  refine Y_split rfl rfl (fun h2 => ?_) (fun h2 => ?_)
  · repeat first
      | refine XC_region ?_
      | refine X_nil ?_
      | refine XC_condT rfl ?_
      | refine XC_seq ?_
      | refine XT_seq ?_
      | refine XT_then_ret ?_
      | refine XC_ret ?_
      | refine Y_res (r_assign rfl) rfl ?_
      | refine Y_off rfl rfl rfl ?_
      | refine Y_res (r_pickT rfl rfl) rfl ?_
    exact XT_says (.inl rfl) Try.results7 rfl rfl
  repeat first
    | refine X_nil ?_
    | refine XT_seq ?_
    | refine Y_res (r_move rfl) rfl ?_
    | refine Y_res (r_gtr rfl rfl) rfl ?_
    | refine Y_on rfl rfl ?_
    | refine Y_res (r_len rfl) rfl ?_
    | refine Y_res (r_pickF rfl rfl) rfl ?_
  refine XC_condP rfl (fun h3 => ?_) (fun h3 => ?_)
  · repeat first
      | refine XC_region ?_
      | refine X_nil ?_
      | refine XC_seq ?_
      | refine XT_seq ?_
      | refine XT_then_ret ?_
      | refine XC_ret ?_
      | refine Y_res (r_assign rfl) rfl ?_
    exact XT_says (.inl rfl) Try.results7 rfl rfl
  obtain ⟨size, rfl⟩ : ∃ q : Nat, m = q := ⟨m.toNat, by omega⟩
  have hs600 : size ≤ 600 := by omega
  have hl10 : ls.length ≤ 10 := by omega
  repeat first
    | refine XC_region ?_
    | refine XC_seq ?_
    | refine XT_seq ?_
    | refine XC_skip ?_
  refine X_call (g := 10) rfl rfl (fun w1 q1 => (new_es 40 q1 (by decide) (by decide)).mono ?_)
  rintro e w2 ⟨g, pa, rfl, q2⟩
  refine ⟨_, rfl, _, q2, ?_⟩
  clear q1 q2
  have hJ0 : Js 0 40 1 0 (new0 40) [] 0 := Js.new (by decide) (by decide) (by decide) (by decide) (by decide)
  have hn40 : (new0 40).n = 40 := rfl
  generalize new0 40 = p at *
  have hnd := needs_bd size
  have hn13 : needs size ≤ 13 := by unfold needs; omega
  obtain ⟨n, hn⟩ : ∃ n, n = needs size := ⟨_, rfl⟩
  repeat first
    | refine XC_region ?_
    | refine X_nil ?_
    | refine XC_condF rfl ?_
    | refine XC_seq ?_
    | refine XT_seq ?_
    | refine XC_block ?_
    | refine XC_skip ?_
    | refine Y_res (r_move rfl) rfl ?_
    | refine Y_res (r_assign rfl) rfl ?_
    | refine Y_res (r_add64 rfl rfl (by omega)) rfl ?_
    | refine Y_res (r_quo rfl rfl (by omega)) rfl ?_
    | refine Y_res (r_eqlNil rfl rfl) rfl ?_
    | refine Y_res (r_len rfl) rfl ?_
  refine XC_re (e := 6) (v' := .int .i64 n) rfl (by congr 1; rw [hn]; unfold needs; omega) ?_
  rw [← hn] at hnd hn13
  refine XC_loop (ι := Nat × Ad × Pl × List (List Int × Nat) × Nat) (fun j => j.1 ≤ ls.length ∧ Js 0 40 1 j.1 j.2.2.1 j.2.2.2.1 j.2.2.2.2 ∧ (j.2.2.2.1 = [] ∨ ∃ x o, j.2.2.2.1 = [(List.replicate size x, o)]))
    (fun j => [(0, .int .i64 size), (5, .pointer (some ⟨g, 0, none⟩)), (6, .int .i64 n), (36, .slice A ls.length c), (37, .int .i64 ls.length), (38, .int .i64 j.1)])
    (fun j => Hp w (fun _ => False) (PlC g j.2.1 j.2.2.1 [])) (fun j => ls.length - j.1) (0, pa, p, [], 0) ⟨Nat.zero_le _, hJ0, .inl rfl⟩ ⟨rfl, rfl, rfl, rfl, rfl, rfl, trivial⟩ (fun _ h => h) ?_
  clear hJ0 hn40
  rintro ⟨i, pb, q, rs, at_⟩ ⟨hi, hJ, hrs⟩
  dsimp only at hi hJ hrs ⊢
  repeat first
    | refine XC_region ?_
    | refine X_nil ?_
    | refine XC_seq ?_
    | refine XT_seq ?_
    | refine Y_res (r_lss rfl rfl) rfl ?_
  refine XC_condP rfl (fun hlt => ?_) (fun hge => ?_)
  · have hi2 : i < ls.length := by omega
    have hA1 := hA (by omega)
    obtain ⟨o, ho⟩ : ∃ o, ls[i]? = some o := ⟨ls[i], List.getElem?_eq_getElem hi2⟩
    obtain ⟨hcell, hkd⟩ := hls.out i o ho
    obtain ⟨K, kc, ks⟩ := o
    dsimp only at hcell hkd
    repeat first
      | refine XC_region ?_
      | refine X_nil ?_
      | refine XC_seq ?_
      | refine XT_seq ?_
      | refine XC_block ?_
      | refine XC_skip ?_
      | refine Y_res (r_move rfl) rfl ?_
      | refine Y_res (r_assign rfl) rfl ?_
      | refine Y_res (r_indexO rfl rfl hi2 hA1) rfl ?_
      | refine Y_res (r_loadO rfl hcell (fun h => h)) rfl ?_
    refine X_call (g := 11) rfl rfl (fun w1 q1 => (open_any 0 40 1 q1 hJ.up.ok hJ.up.dn hJ.up.wf (by decide) hJ.tn (by decide)).mono ?_)
    rintro e w2 ⟨gl, a, rfl, q2, hj⟩
    refine ⟨_, rfl, _, q2, ?_⟩
    clear q1 q2
    obtain ⟨hF, hlist, hat⟩ := hJ.opened a hj
    obtain ⟨l1, hl1⟩ : ∃ l1, l1 = openP (nowAt q) 0 40 1 := ⟨_, rfl⟩
    rw [← hl1] at hF hlist hat ⊢
    clear hj hl1
    obtain ⟨hok, hop, htn⟩ := hF.ok (by omega)
    rcases hrs with rfl | ⟨x, o, rfl⟩
    · have hlist0 : l1.list = [] := hlist
      have hlen0 : l1.list.length = 0 := by rw [hlist0]; rfl
      have hat0 : at_ = 0 := hJ.ld
      have hl0 : l1.at_ = 0 := hat.trans hat0
      repeat first
        | refine XC_region ?_
        | refine X_nil ?_
        | refine XC_condF rfl ?_
        | refine XC_seq ?_
        | refine XT_seq ?_
        | refine XC_skip ?_
        | refine Y_res (r_move rfl) rfl ?_
        | refine Y_res (r_assign rfl) rfl ?_
        | refine Y_res (r_neq rfl rfl) rfl ?_
        | refine Y_res (r_eqlNil rfl rfl) rfl ?_
        | refine Y_on rfl rfl ?_
        | refine Y_res (r_extract rfl rfl) rfl ?_
        | refine Y_res (r_pickF rfl rfl) rfl ?_
      refine X_call (g := 14) rfl rfl (fun w1 q1 => (records_any q1 hok hF.js (fun x hx => by rw [hlist0] at hx; cases hx)).mono ?_)
      rintro e w2 ⟨A2, c2, js2, rfl, _, q2⟩
      rw [hlen0] at q2 ⊢
      refine ⟨_, rfl, _, wl_pl q2.tail.tail, ?_⟩
      clear q1 q2
      repeat first
        | refine XC_region ?_
        | refine X_nil ?_
        | refine XC_condF rfl ?_
        | refine XC_seq ?_
        | refine XT_seq ?_
        | refine XC_skip ?_
        | refine Y_res (r_move rfl) rfl ?_
        | refine Y_res (r_assign rfl) rfl ?_
        | refine Y_res (r_gtr rfl rfl) rfl ?_
        | refine Y_res (r_len rfl) rfl ?_
      refine X_call (g := 22) rfl rfl (fun w1 q1 => (arm_any (n : Int) q1).mono ?_)
      rintro e w2 ⟨rfl, q2⟩
      refine ⟨_, rfl, _, pl_wl q2, ?_⟩
      clear q1 q2
      have hF1 := hF.armed (n : Int) (by omega)
      have hnq : (armP q (n : Int)).n = q.n := rfl
      have hleft : (armP q (n : Int)).left = n := by show max (n : Int) (-1) = _; omega
      have hnow1 : ∀ x, nowAt (armP q (n : Int)) x = nowAt q x := fun _ => rfl
      generalize armP q (n : Int) = q1 at *
      obtain ⟨x, hx⟩ : ∃ x : Int, x = ((i : Int) + 1) % 256 := ⟨_, rfl⟩
      have hx8 : 0 ≤ x ∧ x < 256 := by omega
      have hbw : ∀ y ∈ List.replicate size x, 0 ≤ y ∧ y < 256 := fun y hy => by rw [List.eq_of_mem_replicate hy]; exact hx8
      repeat first
        | refine XC_region ?_
        | refine X_nil ?_
        | refine XC_seq ?_
        | refine XT_seq ?_
        | refine Y_res (r_move rfl) rfl ?_
        | refine Y_res (r_add64 rfl rfl (by omega)) rfl ?_
        | refine Y_res (r_conv8 rfl) rfl ?_
      rw [← hx]
      refine X_tells (g := 23) (E := 5) (k := .u8) (z := List.replicate size x) rfl rfl (fun w1 hM => fillw_any x size w1 (by omega) hx8) ?_
      intro B cb y hy
      subst hy
      obtain ⟨hok1, hop1, htn1⟩ := hF1.ok (by omega)
      have hb0 : (List.replicate size x).length = size := List.length_replicate
      have htt := hF1.tt
      have hap := append_armed (l := l1) (b := List.replicate size x) hF1.up hbw hF1.br (by omega) (by rw [hb0, ← hn]; omega) htn1
      rw [hb0, ← hn] at hap
      rcases hap with ⟨_, _, _, _, _, hbad⟩ | ⟨q2, j, ha, hqo, hqn, hjn, hjl, _, _, hjp, hrev⟩
      · exfalso; omega
      obtain rfl : j = n := by omega
      skip
      refine X_call (g := 12) rfl rfl (fun w1 q3 => (append_any (gl := gl) (g := g) (l := l1) (a := a) (List.replicate size x) B cb (wp_in q3) hF1.up.ok hok1 hop1 (by omega) (by rw [hF1.up.ls]; decide) (fun cs w2 h2 => rds_sl (h2.sat _ (List.mem_append_right _ (List.mem_cons_self ..)))) hF1.js).mono ?_)
      rintro e w2 ⟨a2, pd, rfl, q4, hj2⟩
      rw [ha] at q4 hj2 ⊢
      refine ⟨_, rfl, _, (wl_pl (wp_out q4).tail), ?_⟩
      clear q3 q4
      repeat first
        | refine XC_region ?_
        | refine X_nil ?_
        | refine XC_condF rfl ?_
        | refine XC_seq ?_
        | refine XT_seq ?_
        | refine XC_skip ?_
        | refine Y_res (r_move rfl) rfl ?_
        | refine Y_res (r_neq rfl rfl) rfl ?_
      refine X_call (g := 24) rfl rfl (fun w1 q3 => (revive_any ks K kc q3 hqo (fun cs w1 h1 => RdV.old hkd h1 old_false)).mono ?_)
      rintro e w2 ⟨pe, rfl, q4⟩
      obtain ⟨hr1, hr2, hr3⟩ := hrev ks
      have hcut := hF1.cut (j := j) (b := List.replicate size x) (k := fun z => ks.getD z false) (by omega) (by omega) (by rw [hb0, ← hn]; omega) (by rw [hb0, ← hn]; omega) hr1 hr2 hqn hr3
      rw [hb0, ← hn] at hcut
      generalize revP q2 ks = q5 at *
      have q6 : Hp w (fun _ => False) (PlC g pe q5 []) w2 := Hp.sublist q4 ((List.Sublist.refl (PlC g pe q5 [])).append (List.nil_sublist _))
      refine ⟨_, rfl, _, q6, ?_⟩
      clear q3 q4 q6 ha hj2 hrev hqo
      have hkl := hkd.le
      have hkc := hkd.cap
      repeat first
        | refine XC_region ?_
        | refine X_nil ?_
        | refine XC_seq ?_
        | refine XT_seq ?_
        | refine Y_res (r_move rfl) rfl ?_
        | refine Y_res (r_assign rfl) rfl ?_
        | refine Y_res (r_geq rfl rfl) rfl ?_
        | refine Y_res (r_len rfl) rfl ?_
      refine XC_mid (ι := Bool) (fun wh => wh = true ↔ ∀ t, t < j → ks.getD t false = true) (fun wh => [(0, .int .i64 size), (5, .pointer (some ⟨g, 0, none⟩)), (6, .int .i64 j), (7, .int .i64 i), (12, .bool wh), (36, .slice A ls.length c), (37, .int .i64 ls.length), (38, .int .i64 i)]) (fun _ => Hp w (fun _ => False) (PlC g pe q5 [])) ?_ ?_
      · repeat first
          | refine XC_block ?_
        refine XC_loop (ι := Nat × Bool) (fun z => z.1 ≤ j ∧ (z.2 = true ↔ j ≤ ks.length ∧ ∀ t, t < z.1 → ks.getD t false = true)) (fun z => [(0, .int .i64 size), (5, .pointer (some ⟨g, 0, none⟩)), (6, .int .i64 j), (7, .int .i64 i), (8, .slice K ks.length kc), (12, .bool z.2), (13, .int .i64 z.1), (36, .slice A ls.length c), (37, .int .i64 ls.length), (38, .int .i64 i)]) (fun _ => Hp w (fun _ => False) (PlC g pe q5 [])) (fun z => j - z.1) (0, decide ((j : Int) ≤ ks.length)) ⟨Nat.zero_le _, by simp⟩ ⟨rfl, rfl, rfl, rfl, rfl, rfl, rfl, rfl, rfl, rfl, trivial⟩ (fun _ h => h) ?_
        rintro ⟨z, wh⟩ ⟨hz, hwh⟩
        dsimp only at hz hwh ⊢
        have hout : ¬ (z < j ∧ wh = true) → (wh = true ↔ ∀ t, t < j → ks.getD t false = true) := fun h => by
          constructor
          · intro hw
            have hzj : z = j := by
              rcases Nat.lt_or_ge z j with h1 | h1
              · exact absurd ⟨h1, hw⟩ h
              · omega
            rw [hzj] at hwh
            exact (hwh.1 hw).2
          · intro hall
            refine hwh.2 ⟨?_, fun t ht => hall t (by omega)⟩
            rcases Nat.lt_or_ge ks.length j with h1 | h1
            · have := hall ks.length h1
              rw [List.getD_eq_getElem?_getD, List.getElem?_eq_none (Nat.le_refl _)] at this
              cases this
            · exact h1
        repeat first
          | refine XC_region ?_
          | refine XC_seq ?_
          | refine Y_res (r_move rfl) rfl ?_
          | refine Y_res (r_lss rfl rfl) rfl ?_
        refine Y_split rfl rfl (fun h7 => ?_) (fun h7 => ?_)
        · repeat first
            | refine X_nil ?_
            | refine XT_seq ?_
            | refine Y_res (r_move rfl) rfl ?_
            | refine Y_on rfl rfl ?_
            | refine Y_res (r_pickT rfl rfl) rfl ?_
          refine XC_cond rfl (fun hw => ?_) (fun hw => ?_)
          · subst hw
            obtain ⟨hjk, hallz⟩ := hwh.1 rfl
            have hzk : z < ks.length := by omega
            have hv : (ks.map Value.bool)[z]? = some (.bool (ks.getD z false)) := by rw [List.getElem?_map, List.getD_eq_getElem?_getD, List.getElem?_eq_getElem hzk]; rfl
            repeat first
              | refine XC_region ?_
              | refine X_nil ?_
              | refine XC_seq ?_
              | refine XT_seq ?_
              | refine XC_block ?_
              | refine XT_block_normal ?_
              | refine XC_skip ?_
              | refine Y_res (r_move rfl) rfl ?_
              | refine Y_res (r_assign rfl) rfl ?_
              | refine Y_res (r_add64 rfl rfl (by omega)) rfl ?_
              | refine Y_res (r_indexRv rfl rfl hkd hzk (by omega)) rfl ?_
              | refine Y_res (r_loadRv rfl hkd old_false hv) rfl ?_
            refine XT_round (z + 1, ks.getD z false) ⟨by dsimp only; omega, ⟨fun hw => ⟨hjk, fun t ht => ?_⟩, fun h => h.2 z (Nat.lt_succ_self z)⟩⟩ (by dsimp only; omega) ⟨rfl, rfl, rfl, rfl, rfl, rfl, rfl, rfl, rfl, rfl, trivial⟩ (fun _ h => h)
            by_cases htz : t = z
            · rw [htz]; exact hw
            · exact hallz t (by dsimp only at ht; omega)
          · repeat first
              | refine XT_block_same rfl ?_
              | refine XT_then_exit ?_
              | refine XC_exit ?_
            exact XT_mid wh (hout (fun h => by rw [h.2] at hw; cases hw)) ⟨rfl, rfl, rfl, rfl, rfl, rfl, rfl, rfl, trivial⟩ (fun _ h => h)
        · repeat first
            | refine X_nil ?_
            | refine XC_condF rfl ?_
            | refine XT_seq ?_
            | refine XT_block_same rfl ?_
            | refine XT_then_exit ?_
            | refine XC_exit ?_
            | refine Y_off rfl rfl rfl ?_
            | refine Y_res (r_pickF rfl rfl) rfl ?_
          exact XT_mid wh (hout (fun h => by omega)) ⟨rfl, rfl, rfl, rfl, rfl, rfl, rfl, rfl, trivial⟩ (fun _ h => h)
      intro wh hwh
      try dsimp only at hwh ⊢
      obtain ⟨rs', at', hJ', hrs', hwr⟩ : ∃ rs' at', Js 0 40 1 (i + 1) q5 rs' at' ∧ (rs' = [] ∨ ∃ x o, rs' = [(List.replicate size x, o)]) ∧ ((wh = true ∧ rs'.map (·.1) = [List.replicate size x]) ∨ (wh = false ∧ rs' = [])) := by
        cases wh with
        | true => exact ⟨_, _, hcut.1 ⟨rfl, hwh.1 rfl⟩, .inr ⟨x, l1.op, rfl⟩, .inl ⟨rfl, rfl⟩⟩
        | false => exact ⟨_, _, hcut.2 (fun h => by cases hwh.2 h.2), .inl rfl, .inr ⟨rfl, rfl⟩⟩
      clear hcut hwh hr1 hr2 hr3
      repeat first
        | refine XC_region ?_
        | refine XC_seq ?_
        | refine Y_res (r_move rfl) rfl ?_
      refine X_call (g := 11) rfl rfl (fun w1 q1 => (open_any 0 40 1 q1 hJ'.up.ok hJ'.up.dn hJ'.up.wf (by decide) hJ'.tn (by decide)).mono ?_)
      rintro e w2 ⟨gl2, a3, rfl, q2, hj3⟩
      refine ⟨_, rfl, _, q2, ?_⟩
      clear q1 q2
      obtain ⟨hF2, hlist2, hat2⟩ := hJ'.opened a3 hj3
      obtain ⟨l2, hl2⟩ : ∃ l2, l2 = openP (nowAt q5) 0 40 1 := ⟨_, rfl⟩
      rw [← hl2] at hF2 hlist2 hat2 ⊢
      clear hj3 hl2
      obtain ⟨hok2, _, _⟩ := hF2.ok (by omega)
      rcases hwr with ⟨rfl, hr1⟩ | ⟨rfl, rfl⟩
      · rw [hr1] at hlist2
        repeat first
          | refine XC_region ?_
          | refine X_nil ?_
          | refine XC_seq ?_
          | refine XT_seq ?_
          | refine Y_res (r_move rfl) rfl ?_
          | refine Y_res (r_assign rfl) rfl ?_
          | refine Y_res (r_neq rfl rfl) rfl ?_
          | refine Y_res (r_eqlNil rfl rfl) rfl ?_
          | refine Y_on rfl rfl ?_
          | refine Y_res (r_extract rfl rfl) rfl ?_
          | refine Y_res (r_pickF rfl rfl) rfl ?_
        refine X_call (g := 14) rfl rfl (fun w1 q1 => (records1_any (gl := gl2) (g := g) (l := l2) (a := a3) q1 hF2.js hlist2 (by simp; omega)).mono ?_)
        rintro e w2 ⟨A5, c5, B5, d5, rfl, q2⟩
        refine ⟨_, rfl, _, q2.tail.tail, ?_⟩
        clear q1 q2
        repeat first
          | refine X_nil ?_
          | refine XC_condF rfl ?_
          | refine XC_seq ?_
          | refine XT_seq ?_
          | refine XC_skip ?_
          | refine Y_res (r_move rfl) rfl ?_
          | refine Y_res (r_eql rfl rfl) rfl ?_
          | refine Y_res (r_neqB rfl rfl) rfl ?_
          | refine Y_on rfl rfl ?_
          | refine Y_res (r_len rfl) rfl ?_
          | refine Y_res (r_pickF rfl rfl) rfl ?_
        refine XC_held 13 (Hp w (fun _ => False) []) rfl drw_hp (fun _ h => h.none) ?_
        refine TE_reads [0, 1, 2, 6, 7, 8, 9] (by decide +kernel) (by decide +kernel) rfl ?_
        repeat first
          | refine Y_res (r_move rfl) rfl ?_
          | refine Y_res (r_add64 rfl rfl (by omega)) rfl ?_
          | refine Y_on rfl rfl ?_
          | refine Y_res (r_conv8 rfl) rfl ?_
        refine XQ_nodeE ?_
        refine TE_one 3 (by decide +kernel) rfl rfl ?_
        repeat first
          | refine Y_on rfl rfl ?_
        refine X_call (g := 14) rfl rfl (fun w1 q1 => (records1_any (gl := gl2) (g := g) (l := l2) (a := a3) q1 hF2.js hlist2 (by simp; omega)).mono ?_)
        rintro e w2 ⟨A6, c6, B6, d6, rfl, q2⟩
        refine ⟨_, rfl, _, q2, ?_⟩
        clear q1 q2
        repeat first
          | refine X_nil ?_
          | refine XT_only ?_
        refine XT_nodeE (fun _ h => h.none) ?_
        refine TE_re (Hp w (fun _ => False) [Ch.sv A6 c6 30 1 1 [.slice B6 (List.replicate size x).length d6], Ch.sl B6 d6 5 .u8 (List.replicate size x)]) (fun _ h => h.none) (fun _ h => Hp.sublist h (.cons_cons _ (.cons_cons _ (List.nil_sublist _)))) ?_
        refine TE_reads [4, 5] (by decide +kernel) (by decide +kernel) rfl ?_
        repeat first
          | refine Y_on rfl rfl ?_
          | refine Y_res (r_indexV0 (i := 0) rfl rfl (by decide) (Nat.le_refl _)) rfl ?_
          | refine Y_res (r_loadV (i := 0) rfl rfl) rfl ?_
        refine XQ_nodeE ?_
        refine TE_one 10 (by decide +kernel) rfl rfl ?_
        repeat first
          | refine Y_on rfl rfl ?_
        rw [← hx]
        refine X_tells (g := 23) (E := 5) (k := .u8) (z := List.replicate size x) rfl rfl (fun w1 hM => fillw_any x size w1 (by omega) hx8) ?_
        intro B7 c7 y7 hy7
        subst hy7
        repeat first
          | refine X_nil ?_
          | refine XT_only ?_
        refine XT_nodeE (fun _ h => Hp.sublist h (.cons _ (.cons_cons _ (.cons_cons _ (List.nil_sublist _))))) ?_
        refine TE_one 11 (by decide +kernel) rfl rfl ?_
        repeat first
          | refine Y_on rfl rfl ?_
        refine Y_says (g := 15) (v := .bool true) rfl rfl (fun w1 hM => by
          have := NSame.same_any (List.replicate size x) (List.replicate size x) _ _ _ _ w1 (rds_sl hM.tail.tail.head) (rds_sl hM.head)
          rwa [decide_eq_true rfl] at this) ?_
        repeat first
          | refine X_nil ?_
          | refine XT_only ?_
        refine XT_nodeE (fun _ h => Hp.sublist h (.cons _ (.cons_cons _ (.cons_cons _ (List.nil_sublist _))))) ?_
        refine TE_reads [12] (by decide +kernel) (by decide +kernel) rfl ?_
        repeat first
          | refine Y_on rfl rfl ?_
          | refine Y_res (r_notB rfl) rfl ?_
        refine XQ_nodeE ?_
        refine TE_tail 13 (by decide +kernel) rfl rfl ?_
        repeat first
          | refine X_nil ?_
          | refine XT_only ?_
          | refine Y_res (r_pickT rfl rfl) rfl ?_
        refine XT_nodeW (TN_end (by decide +kernel) ?_)
        repeat first
          | refine XC_region ?_
          | refine X_nil ?_
          | refine XC_condF rfl ?_
          | refine XT_seq ?_
          | refine XT_block_normal ?_
          | refine XC_skip ?_
          | refine Y_res (r_move rfl) rfl ?_
          | refine Y_res (r_add64 rfl rfl (by omega)) rfl ?_
        exact XT_round (i + 1, pe, q5, rs', at') ⟨by dsimp only; omega, hJ', hrs'⟩ (by dsimp only; omega) ⟨rfl, rfl, rfl, rfl, rfl, rfl, trivial⟩ (fun _ h => h.tail.tail.tail.tail.tail.tail)
      · have hz0 : l2.list.length = 0 := by rw [hlist2]; rfl
        repeat first
          | refine XC_region ?_
          | refine X_nil ?_
          | refine XC_seq ?_
          | refine XT_seq ?_
          | refine Y_res (r_move rfl) rfl ?_
          | refine Y_res (r_assign rfl) rfl ?_
          | refine Y_res (r_neq rfl rfl) rfl ?_
          | refine Y_res (r_eqlNil rfl rfl) rfl ?_
          | refine Y_on rfl rfl ?_
          | refine Y_res (r_extract rfl rfl) rfl ?_
          | refine Y_res (r_pickF rfl rfl) rfl ?_
        refine X_call (g := 14) rfl rfl (fun w1 q1 => (records_any q1 hok2 hF2.js (fun y hy => by rw [hlist2] at hy; cases hy)).mono ?_)
        rintro e w2 ⟨A5, c5, js5, rfl, _, q2⟩
        rw [hz0] at q2 ⊢
        refine ⟨_, rfl, _, q2.tail.tail, ?_⟩
        clear q1 q2
        repeat first
          | refine XC_region ?_
          | refine XC_quietF rfl (by kernel_rfl) (by kernel_rfl) drw_hp ?_
          | refine X_nil ?_
          | refine XQ_nil ?_
          | refine XC_condF rfl ?_
          | refine XC_seq ?_
          | refine XT_seq ?_
          | refine XT_block_normal ?_
          | refine XC_skip ?_
          | refine Y_res (r_move rfl) rfl ?_
          | refine Y_res (r_add64 rfl rfl (by omega)) rfl ?_
          | refine Y_res (r_eql rfl rfl) rfl ?_
          | refine Y_res (r_neqB rfl rfl) rfl ?_
          | refine Y_on rfl rfl ?_
          | refine Y_off rfl rfl rfl ?_
          | refine Y_res (r_len rfl) rfl ?_
          | refine Y_res (r_pickF rfl rfl) rfl ?_
        exact XT_round (i + 1, pe, q5, [], at') ⟨by dsimp only; omega, hJ', .inl rfl⟩ (by dsimp only; omega) ⟨rfl, rfl, rfl, rfl, rfl, rfl, trivial⟩ (fun _ h => h.tail.tail.tail)
    · have hlen1 : l1.list.length = 1 := by rw [hlist]; rfl
      repeat first
        | refine XC_region ?_
        | refine X_nil ?_
        | refine XC_condF rfl ?_
        | refine XC_seq ?_
        | refine XT_seq ?_
        | refine XC_skip ?_
        | refine Y_res (r_move rfl) rfl ?_
        | refine Y_res (r_assign rfl) rfl ?_
        | refine Y_res (r_neq rfl rfl) rfl ?_
        | refine Y_res (r_eqlNil rfl rfl) rfl ?_
        | refine Y_on rfl rfl ?_
        | refine Y_res (r_extract rfl rfl) rfl ?_
        | refine Y_res (r_pickF rfl rfl) rfl ?_
      refine X_call (g := 14) rfl rfl (fun w1 q1 => (records1_any (gl := gl) (g := g) (l := l1) (a := a) q1 hF.js hlist (by simp; omega)).mono ?_)
      rintro e w2 ⟨A4, c4, B, d, rfl, q2⟩
      refine ⟨_, rfl, _, q2, ?_⟩
      clear q1 q2
      repeat first
        | refine XC_region ?_
        | refine X_nil ?_
        | refine XC_condT rfl ?_
        | refine XC_seq ?_
        | refine XT_seq ?_
        | refine Y_res (r_move rfl) rfl ?_
        | refine Y_res (r_assign rfl) rfl ?_
        | refine Y_res (r_gtr rfl rfl) rfl ?_
        | refine Y_res (r_eql rfl rfl) rfl ?_
        | refine Y_on rfl rfl ?_
        | refine Y_res (r_len rfl) rfl ?_
        | refine Y_res (r_pickT rfl rfl) rfl ?_
        | refine Y_res (r_indexV0 (i := 0) rfl rfl (by decide) (Nat.le_refl _)) rfl ?_
        | refine Y_res (r_loadV (i := 0) rfl rfl) rfl ?_
        | refine Y_splitT rfl rfl (by simp) ?_
      refine Y_says (g := 21) rfl rfl (fun w1 hM => by
        have := alike_any x size B d w1 (rds_sl hM.tail.head)
        rwa [← List.length_replicate (n := size) (a := x)] at this) ?_
      repeat first
        | refine X_nil ?_
        | refine XT_seq ?_
        | refine XT_block_ret ?_
        | refine XT_then_ret ?_
        | refine XC_ret ?_
        | refine Y_res (r_assign rfl) rfl ?_
        | refine Y_res (r_pickT rfl rfl) rfl ?_
      exact XT_says (.inl rfl) Try.results7 rfl rfl
  · repeat first
      | refine XC_region ?_
      | refine X_nil ?_
      | refine XC_seq ?_
      | refine XT_seq ?_
      | refine XT_block_same rfl ?_
      | refine XT_then_exit ?_
      | refine XC_exit ?_
      | refine XC_ret ?_
      | refine Y_res (r_assign rfl) rfl ?_
    exact XT_says (.inl rfl) Try.results7 rfl rfl
end Go.Proofs.Ytgfpibojgkleiaa.NWl
