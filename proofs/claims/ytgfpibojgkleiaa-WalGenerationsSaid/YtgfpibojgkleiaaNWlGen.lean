/- WalGenerations, walked: true at every input. -/
import Derived.Test.YtgfpibojgkleiaaNWlA
import Derived.Test.YtgfpibojgkleiaaNWl9
import Derived.Test.YtgfpibojgkleiaaNWlSm
namespace Go.Proofs.Ytgfpibojgkleiaa.NWl
open Go Go.RowKit Go.Proofs.Ytgfpibojgkleiaa.MX Go.Proofs.Ytgfpibojgkleiaa.PWal Go.Proofs.Ytgfpibojgkleiaa.NPl Go.Proofs.Ytgfpibojgkleiaa.NSame
set_option linter.unusedVariables false
set_option linter.unusedSimpArgs false
set_option linter.unusedVariables false
/-- No sector is of a later generation. -/
def Gn (q : Pl) (size g : Nat) : Prop := ∀ i, 2 ≤ i → i < 2 + size → (rdS (nowAt q i)).gen ≤ g
/-- Where a generation's log stands. -/
structure Gs (size gen : Nat) (q : Pl) (l : Lg) (a : La) (rs : List (List Int × Nat)) (js : List It) (w : World) : Prop where
  go : Go1 q l a
  to : l.to = 2 + size
  gn : l.gen = gen
  on : l.op = 1
  nx : l.nx = 1 + rs.length
  ll : l.list = rs.map (·.1)
  ld : laid (nowAt q) gen rs 2 1 0 l.at_
  lo : lastOp 0 rs ≤ 1
  bh : Beh (nowAt q) (2 + size) gen l.at_ l.nx
  nl : ∀ i, 2 ≤ i → i < 2 + size → (rdS (nowAt q i)).gen ≤ gen
  jk : JOk .u8 js l.list
  rd : ∀ it ∈ js, it.rd w
  pn : q.n = 64
theorem Gs.len {size gen : Nat} {q : Pl} {l : Lg} {a : La} {rs : List (List Int × Nat)} {js : List It} {w : World} (h : Gs size gen q l a rs js w) : rs.length ≤ 62 ∧ l.list.length = rs.length ∧ l.at_ ≤ 2 + size := by
  have h1 := laid_le h.ld
  have h2 := h.go.ok.le
  have h3 := h.go.tn
  have h4 := h.pn
  have h5 := h.to
  exact ⟨by omega, by rw [h.ll, List.length_map], by omega⟩
theorem Gs.next {size gen : Nat} {q : Pl} {l : Lg} {a : La} {rs : List (List Int × Nat)} {js : List It} {w : World} (h : Gs size gen q l a rs js w) (b : List Int) (hb : ∀ x ∈ b, 0 ≤ x ∧ x < 256) (hbl : b.length ≤ 1000) (hfit : l.at_ + needs b.length ≤ l.to) (hg : gen < 4294967296) :
    ∃ q', appendL q l b = (q', { l with at_ := l.at_ + needs b.length, nx := l.nx + 1, list := l.list ++ [b] }, 0) ∧
      ∀ (a' : La) (B : Option Addr) (d : Nat), JOk .u8 a'.js (l.list ++ [b]) → Rds w B d .u8 b → Gs size gen q' { l with at_ := l.at_ + needs b.length, nx := l.nx + 1, list := l.list ++ [b] } a' (rs ++ [(b, 1)]) (js ++ [itI .u8 B d b]) w := by
  obtain ⟨h1, h2, h3⟩ := h.len
  have hnx := h.nx
  have hnd := needs_bd b.length
  have hto := h.to
  obtain ⟨q', k1, k2, k3, k4⟩ := h.go.next (a' := a) hb (by omega) hfit (by omega) (by omega)
  rw [h.gn, h.on] at k3
  have hnew : ∀ i, i < needs b.length → nowAt q' (l.at_ + i) = secB gen 1 l.nx b i := fun i hi => by
    rw [k3, if_pos (by omega), show l.at_ + i - l.at_ = i by omega]
  have hold : ∀ i, (i < l.at_ ∨ l.at_ + needs b.length ≤ i) → nowAt q' i = nowAt q i := fun i hi => by rw [k3, if_neg (by omega)]
  refine ⟨q', k1, fun a' B d hj hr => ?_⟩
  have hbn := h.bh.next (S' := nowAt q') (n := needs b.length) (op := 0) (fun i h1 h2 => hold i (.inr h1))
  refine ⟨k4 a' hj, h.to, h.gn, h.on, by dsimp only; rw [List.length_append, List.length_singleton]; omega, by dsimp only; rw [h.ll]; simp, ?_, by rw [lastOp_snoc]; exact Nat.le_refl _, hbn.1, fun i hi1 hi2 => ?_, h.jk.snoc B d b, fun it hit => ?_, by rw [k2]; exact h.pn⟩
  · refine laid_snoc (laid_congr h.ld (fun i h1 h2 => hold i (.inl h2))) (by omega) (by have := h.lo; omega) (by decide) ?_
    rw [← hnx]
    exact hnew
  · by_cases hi : l.at_ ≤ i ∧ i < l.at_ + needs b.length
    · have := hnew (i - l.at_) (by omega)
      rw [show l.at_ + (i - l.at_) = i by omega] at this
      rw [this, rdS_secB hg (by decide) (by omega) (by omega) (by omega)]
      exact Nat.le_refl _
    · rw [hold i (by omega)]
      exact h.nl i hi1 hi2
  · rw [List.mem_append, List.mem_singleton] at hit
    rcases hit with hit | rfl
    · exact h.rd it hit
    · exact hr.toV
/-- What is there when it is opened again. -/
theorem Gs.again {size gen : Nat} {q : Pl} {l : Lg} {a : La} {rs : List (List Int × Nat)} {js : List It} {w : World} (h : Gs size gen q l a rs js w) (hg : gen < 4294967296) : (openP (nowAt q) 2 (2 + size) gen).list = l.list ∧ (openP (nowAt q) 2 (2 + size) gen).at_ = l.at_ ∧ (openP (nowAt q) 2 (2 + size) gen).nx = l.nx := by
  obtain ⟨h1, h2, h3⟩ := h.len
  have hnx := h.nx
  have e := scan_laid (to := 2 + size) hg h.ld h3 (by omega) (fun _ => take_none (by rw [← hnx]; exact h.bh.nwh))
  have e2 : openP (nowAt q) 2 (2 + size) gen = ⟨l.at_, 2 + size, gen, topTo (nowAt q) gen 2 (2 + size - 2) + 1, 1 + rs.length, rs.map (·.1), false⟩ := by rw [openP, e]
  rw [e2]
  exact ⟨h.ll.symm, rfl, hnx.symm⟩
theorem Gs.start {size gen : Nat} {q : Pl} {a : La} {w : World} (hu : Upp q) (hn : q.n = 64) (hs : size ≤ 60) (hg : 1 ≤ gen ∧ gen < 2147483648) (hG : Gn q size (gen - 1)) (hj : JOk .u8 a.js []) : Gs size gen q ⟨2, 2 + size, gen, 1, 1, [], false⟩ a [] [] w := by
  have hne : ∀ i, 2 ≤ i → i < 2 + size → (rdS (nowAt q i)).gen ≠ gen := fun i h1 h2 => by have := hG i h1 h2; omega
  refine ⟨⟨hu, ⟨by dsimp only; omega, by dsimp only; omega, hg, (show (1 : Nat) ≤ 4294967296 by decide), (show (1 : Nat) ≤ 100000 by decide), (show (0 : Nat) ≤ 100000 by decide)⟩, (show (1 : Nat) < 4294967296 by decide), rfl, by dsimp only; omega, hj⟩, rfl, rfl, rfl, rfl, rfl, rfl, Nat.zero_le _, ⟨fun i h1 h2 h3 => absurd h3 (hne i h1 h2), fun o hw => hne 2 (Nat.le_refl _) (by have h := hw.2.2.2.2.1; dsimp only at h; omega) hw.1⟩, fun i h1 h2 => by have := hG i h1 h2; omega, JOk.nil _, fun it hit => absurd hit (List.not_mem_nil), hn⟩
set_option maxRecDepth 100000 in
set_option maxHeartbeats 8000000 in
theorem gen_law (m : Int) (l : List LlD) (A : Option Addr) (c : Nat) (w : World) (hm : (Lit.int .i64 m).wf = true) (h : shLLL.has w [.slice A l.length c] (A, c, l)) :
    Calls Try.prog 6 #[.int .i64 m, .slice A l.length c] w fun e w' => e = .returned (.bool true) ∧ Chg (fun _ => False) w w' := by
  have hm64 := wf64 hm
  obtain ⟨hA, hlc, hcm, hls⟩ := llls_at h
  have hls := Lib.hid hls
  clear h
  refine calls_of_X (Rr := Says w (.bool true)) (vs := [_, _]) (M := Hp w (fun _ => False) []) Try.func6 rfl Try.ntmps6 rfl (Hp.nil _ _) ?_
  repeat first
    | refine XC_region ?_
    | refine X_nil ?_
    | refine XC_condF rfl ?_
    | refine XC_seq ?_
    | refine XT_seq ?_
    | refine XC_skip ?_
    | refine Y_res (r_move rfl) rfl ?_
    | refine Y_res (r_assign rfl) rfl ?_
    | refine Y_res (r_lss rfl rfl) rfl ?_
    | refine Y_res (r_notB rfl) rfl ?_
    | refine Y_says (g := 9) rfl rfl (fun w1 hM => anchor_any w1) ?_
  refine Y_split rfl rfl (fun h1 => ?_) (fun h1 => ?_)
  · repeat first
      | refine XC_region ?_
      | refine X_nil ?_
      | refine XC_condT rfl ?_
      | refine XC_seq ?_
      | refine XT_seq ?_
      | refine XT_then_ret ?_
      | refine XC_ret ?_
      | refine Y_res (r_move rfl) rfl ?_
      | refine Y_res (r_assign rfl) rfl ?_
      | refine Y_off rfl rfl rfl ?_
      | refine Y_res (r_pickT rfl rfl) rfl ?_
    exact XT_says (.inl rfl) Try.results6 rfl rfl
  repeat first
    | refine Y_res (r_move rfl) rfl ?_
    | refine Y_res (r_gtr rfl rfl) rfl ?_
    | refine Y_on rfl rfl ?_
    | refine Y_res (r_pickF rfl rfl) rfl ?_
  refine Y_split rfl rfl (fun h2 => ?_) (fun h2 => ?_)
  · repeat first
      | refine XC_region ?_
      | refine X_nil ?_
      | refine XC_condT rfl ?_
      | refine XC_seq ?_
      | refine XT_seq ?_
      | refine XT_then_ret ?_
      | refine XC_ret ?_
      | refine Y_res (r_assign rfl) rfl ?_
      | refine Y_off rfl rfl rfl ?_
      | refine Y_res (r_pickT rfl rfl) rfl ?_
    exact XT_says (.inl rfl) Try.results6 rfl rfl
  repeat first
    | refine X_nil ?_
    | refine XT_seq ?_
    | refine Y_res (r_move rfl) rfl ?_
    | refine Y_res (r_gtr rfl rfl) rfl ?_
    | refine Y_on rfl rfl ?_
    | refine Y_res (r_len rfl) rfl ?_
    | refine Y_res (r_pickF rfl rfl) rfl ?_
  refine XC_condP rfl (fun h3 => ?_) (fun h3 => ?_)
  · repeat first
      | refine XC_region ?_
      | refine X_nil ?_
      | refine XC_seq ?_
      | refine XT_seq ?_
      | refine XT_then_ret ?_
      | refine XC_ret ?_
      | refine Y_res (r_assign rfl) rfl ?_
    exact XT_says (.inl rfl) Try.results6 rfl rfl
  obtain ⟨size, rfl⟩ : ∃ q : Nat, m = q := ⟨m.toNat, by omega⟩
  have hs60 : size ≤ 60 := by omega
  have hs1 : 1 ≤ size := by omega
  have hl10 : l.length ≤ 10 := by omega
  repeat first
    | refine XC_region ?_
    | refine XC_seq ?_
    | refine XT_seq ?_
    | refine XC_skip ?_
  refine X_call (g := 10) rfl rfl (fun w1 q1 => (new_es 64 q1 (by decide) (by decide)).mono ?_)
  rintro e w2 ⟨g, pa, rfl, q2⟩
  refine ⟨_, rfl, _, q2, ?_⟩
  clear q1 q2
  have hu := upp_new (n := 64) (by decide) (by decide)
  have hG0 : Gn (new0 64) size 0 := fun i _ _ => by
    have := @new_gen 64 ((rdS (nowAt (new0 64) i)).gen) i
    omega
  have hn8 : (new0 64).n = 64 := rfl
  generalize new0 64 = p at *
  repeat first
    | refine XC_region ?_
    | refine X_nil ?_
    | refine XC_condF rfl ?_
    | refine XC_seq ?_
    | refine XT_seq ?_
    | refine XC_block ?_
    | refine XC_skip ?_
    | refine Y_res (r_move rfl) rfl ?_
    | refine Y_res (r_assign rfl) rfl ?_
    | refine Y_res (r_eqlNil rfl rfl) rfl ?_
    | refine Y_res (r_len rfl) rfl ?_
  refine XC_loop (ι := Nat × Ad × Pl) (fun j => j.1 ≤ l.length ∧ Upp j.2.2 ∧ j.2.2.n = 64 ∧ Gn j.2.2 size j.1) (fun j => [(0, .int .i64 size), (5, .pointer (some ⟨g, 0, none⟩)), (31, .slice A l.length c), (32, .int .i64 l.length), (33, .int .i64 j.1)])
    (fun j => Hp w (fun _ => False) (PlC g j.2.1 j.2.2 [])) (fun j => l.length - j.1) (0, pa, p) ⟨Nat.zero_le _, hu, hn8, hG0⟩ ⟨rfl, rfl, rfl, rfl, rfl, trivial⟩ (fun _ h => h) ?_
  clear hu hG0 hn8
  rintro ⟨i, pb, q⟩ ⟨hi, hu, hn, hG⟩
  dsimp only at hi hu hn hG ⊢
  repeat first
    | refine XC_region ?_
    | refine X_nil ?_
    | refine XC_seq ?_
    | refine XT_seq ?_
    | refine Y_res (r_lss rfl rfl) rfl ?_
  refine XC_condP rfl (fun hlt => ?_) (fun hge => ?_)
  · have hi2 : i < l.length := by omega
    have hA1 := hA (by omega)
    obtain ⟨o, ho⟩ : ∃ o, l[i]? = some o := ⟨l[i], List.getElem?_eq_getElem hi2⟩
    obtain ⟨hcell, hL, hxl, hxw⟩ := hls.out i o ho
    obtain ⟨L, hLe⟩ : ∃ L, L = lss o.2.2 := ⟨_, rfl⟩
    rw [← hLe] at hcell hL hxl hxw
    have hLl := hL.le
    have hLc := hL.cap
    repeat first
      | refine XC_region ?_
      | refine X_nil ?_
      | refine XC_seq ?_
      | refine XT_seq ?_
      | refine XC_block ?_
      | refine XC_skip ?_
      | refine Y_res (r_move rfl) rfl ?_
      | refine Y_res (r_assign rfl) rfl ?_
      | refine Y_res (r_add64 rfl rfl (by omega)) rfl ?_
      | refine Y_res (r_indexO rfl rfl hi2 hA1) rfl ?_
      | refine Y_res (r_loadO rfl hcell (fun h => h)) rfl ?_
    refine X_call (g := 11) rfl rfl (fun w1 q1 => (open_any 2 (2 + size) (i + 1) q1 hu.ok hu.dn hu.wf (by omega) (by omega) (by omega)).mono ?_)
    rintro e w2 ⟨gl, a, rfl, q2, hj⟩
    have eo : openP (nowAt q) 2 (2 + size) (i + 1) = ⟨2, 2 + size, i + 1, 1, 1, [], false⟩ := open_none (fun k h1 h2 => by have := hG k h1 h2; omega) (by omega)
    rw [eo] at q2 hj
    refine ⟨_, rfl, _, q2, ?_⟩
    clear q1 q2 eo
    have hS := Gs.start (size := size) (gen := i + 1) (w := w) hu hn hs60 (by omega) hG hj
    obtain ⟨l0, hl0⟩ : ∃ l0 : Lg, l0 = ⟨2, 2 + size, i + 1, 1, 1, [], false⟩ := ⟨_, rfl⟩
    rw [← hl0] at hS ⊢
    have hl0l : l0.list = [] := by rw [hl0]
    have hl0o : l0.op = 1 := by rw [hl0]
    have hl0n : l0.list.length = 0 := by rw [hl0l]; rfl
    clear hl0 hj hG hu hn
    repeat first
      | refine XC_region ?_
      | refine X_nil ?_
      | refine XC_seq ?_
      | refine XT_seq ?_
      | refine Y_res (r_move rfl) rfl ?_
      | refine Y_res (r_assign rfl) rfl ?_
      | refine Y_res (r_neq rfl rfl) rfl ?_
      | refine Y_res (r_eqlNil rfl rfl) rfl ?_
      | refine Y_on rfl rfl ?_
      | refine Y_res (r_extract rfl rfl) rfl ?_
      | refine Y_res (r_pickF rfl rfl) rfl ?_
    refine X_call (g := 14) rfl rfl (fun w1 q1 => (records_any q1 hS.go.ok hS.go.js (fun x hx => by rw [hl0l] at hx; cases hx)).mono ?_)
    rintro e w2 ⟨A2, c2, js2, rfl, _, q2⟩
    rw [hl0n] at q2 ⊢
    refine ⟨_, rfl, _, q2.tail.tail, ?_⟩
    clear q1 q2
    repeat first
      | refine Y_res (r_move rfl) rfl ?_
      | refine Y_res (r_neq rfl rfl) rfl ?_
      | refine Y_on rfl rfl ?_
      | refine Y_res (r_len rfl) rfl ?_
      | refine Y_res (r_pickF rfl rfl) rfl ?_
    refine X_call (g := 19) rfl rfl (fun w1 q1 => (opening_any q1).mono ?_)
    rintro e w2 ⟨rfl, q2⟩
    rw [hl0o]
    refine ⟨_, rfl, _, q2, ?_⟩
    clear q1 q2
    repeat first
      | refine XC_region ?_
      | refine X_nil ?_
      | refine XC_condF rfl ?_
      | refine XC_seq ?_
      | refine XT_seq ?_
      | refine XC_block ?_
      | refine XC_skip ?_
      | refine Y_res (r_move rfl) rfl ?_
      | refine Y_res (r_assign rfl) rfl ?_
      | refine Y_res (r_neq rfl rfl) rfl ?_
      | refine Y_on rfl rfl ?_
      | refine Y_res (r_len rfl) rfl ?_
      | refine Y_res (r_pickF rfl rfl) rfl ?_
    refine XC_loop (ι := Nat × (Ad × Pl) × (Lg × La) × (Option Addr × Nat) × List (List Int × Nat) × List It) (fun j => j.1 ≤ L.length ∧ (0 < j.1 → L.length ≤ 20) ∧ Gs size (i + 1) j.2.1.2 j.2.2.1.1 j.2.2.1.2 j.2.2.2.2.1 j.2.2.2.2.2 w ∧ ∀ x ∈ j.2.2.1.1.list, x.length ≤ 1000)
      (fun j => [(0, .int .i64 size), (5, .pointer (some ⟨g, 0, none⟩)), (6, .int .i64 i), (7, .slice o.1 L.length o.2.1), (8, .pointer (some ⟨gl, 0, none⟩)), (10, .slice j.2.2.2.1.1 j.2.2.1.1.list.length j.2.2.2.1.2), (31, .slice A l.length c), (32, .int .i64 l.length), (33, .int .i64 i), (64, .slice o.1 L.length o.2.1), (65, .int .i64 L.length), (66, .int .i64 j.1)])
      (fun j => Hp w (fun _ => False) (Ch.sv j.2.2.2.1.1 j.2.2.2.1.2 30 1 j.2.2.1.1.list.length (j.2.2.2.2.2.map It.val) :: WlC gl g j.2.2.1.1 j.2.2.1.2 (PlC g j.2.1.1 j.2.1.2 []))) (fun j => L.length - j.1) (0, (pb, q), (l0, a), (none, 0), [], []) ⟨Nat.zero_le _, fun h => absurd h (Nat.lt_irrefl 0), hS, fun x hx => by dsimp only at hx; rw [hl0l] at hx; cases hx⟩ ⟨rfl, rfl, rfl, rfl, rfl, by dsimp only; rw [hl0n]; rfl, rfl, rfl, rfl, rfl, rfl, rfl, trivial⟩ (fun _ h => by dsimp only; rw [hl0n]; exact h.nilV _ _) ?_
    clear hS hl0l hl0o hl0n
    rintro ⟨k, ⟨pc, q⟩, ⟨l1, a1⟩, ⟨Aw, cw⟩, rs, js⟩ ⟨hk, hk20, hS, hx1000⟩
    dsimp only at hk hk20 hS hx1000 ⊢
    repeat first
      | refine XC_region ?_
      | refine X_nil ?_
      | refine XC_seq ?_
      | refine XT_seq ?_
      | refine Y_res (r_lss rfl rfl) rfl ?_
    refine XC_condP rfl (fun hlt2 => ?_) (fun hge2 => ?_)
    · have hk2 : k < L.length := by omega
      have hLA := hL.some (by omega)
      obtain ⟨b, hb⟩ : ∃ b, L[k]? = some b := ⟨L[k], List.getElem?_eq_getElem hk2⟩
      obtain ⟨B, d, hcell2, hrd⟩ := hL.at_ k b hb
      have hbm := List.mem_of_getElem? hb
      have hb8 : ∀ x ∈ b, 0 ≤ x ∧ x < 256 := fun x hx => wf8 (hxw b hbm x hx)
      have hbl0 := hxl b hbm
      repeat first
        | refine XC_region ?_
        | refine X_nil ?_
        | refine XC_seq ?_
        | refine XT_seq ?_
        | refine XC_block ?_
        | refine XC_skip ?_
        | refine Y_res (r_move rfl) rfl ?_
        | refine Y_res (r_assign rfl) rfl ?_
        | refine Y_res (r_gtr rfl rfl) rfl ?_
        | refine Y_res (r_len rfl) rfl ?_
        | refine Y_res (r_indexO rfl rfl hk2 hLA) rfl ?_
        | refine Y_res (r_loadO rfl hcell2 (fun h => h)) rfl ?_
      refine Y_split rfl rfl (fun h5 => ?_) (fun h5 => ?_)
      · repeat first
          | refine XC_region ?_
          | refine X_nil ?_
          | refine XC_condT rfl ?_
          | refine XC_seq ?_
          | refine XT_seq ?_
          | refine XT_block_ret ?_
          | refine XT_then_ret ?_
          | refine XC_ret ?_
          | refine Y_res (r_assign rfl) rfl ?_
          | refine Y_off rfl rfl rfl ?_
          | refine Y_res (r_pickT rfl rfl) rfl ?_
        exact XT_says (.inl rfl) Try.results6 rfl rfl
      repeat first
        | refine X_nil ?_
        | refine XT_seq ?_
        | refine Y_res (r_move rfl) rfl ?_
        | refine Y_res (r_gtr rfl rfl) rfl ?_
        | refine Y_on rfl rfl ?_
        | refine Y_res (r_len rfl) rfl ?_
        | refine Y_res (r_pickF rfl rfl) rfl ?_
      refine XC_condP rfl (fun h6 => ?_) (fun h6 => ?_)
      · repeat first
          | refine XC_region ?_
          | refine X_nil ?_
          | refine XC_seq ?_
          | refine XT_seq ?_
          | refine XT_block_ret ?_
          | refine XT_then_ret ?_
          | refine XC_ret ?_
          | refine Y_res (r_assign rfl) rfl ?_
        exact XT_says (.inl rfl) Try.results6 rfl rfl
      have hbl : b.length ≤ 1000 := by omega
      have hL20 : L.length ≤ 20 := by omega
      have hnd := needs_bd b.length
      by_cases hfit : l1.at_ + needs b.length ≤ l1.to
      · obtain ⟨q', k1, k2⟩ := hS.next b hb8 hbl hfit (by omega)
        obtain ⟨z1, z2, z3⟩ := hS.len
        repeat first
          | refine XC_region ?_
          | refine XC_seq ?_
          | refine XT_seq ?_
          | refine XC_skip ?_
          | refine Y_res (r_move rfl) rfl ?_
        refine X_call (g := 12) rfl rfl (fun w1 q1 => (append_any (gl := gl) (g := g) (l := l1) (a := a1) (pa := pc) (p := q) (es := [Ch.sv Aw cw 30 1 l1.list.length (js.map It.val)]) b B d (wp_in q1) hS.go.up.ok hS.go.ok hS.go.op (by omega) hS.go.ll (fun cs w1 h1 => hrd.old h1 old_false) hS.go.js).mono ?_)
        rintro e w2 ⟨a2, pd, rfl, q2, hj2⟩
        rw [k1] at q2 hj2 ⊢
        refine ⟨_, rfl, _, wp_out q2, ?_⟩
        clear q1 q2
        have hS2 := k2 a2 B d hj2 hrd
        have el : (l1.list ++ [b]).length = l1.list.length + 1 := by simp
        repeat first
          | refine XC_region ?_
          | refine X_nil ?_
          | refine XC_condT rfl ?_
          | refine XT_seq ?_
          | refine XT_block_normal ?_
          | refine Y_res (r_move rfl) rfl ?_
          | refine Y_res (r_assign rfl) rfl ?_
          | refine Y_res (r_add64 rfl rfl (by omega)) rfl ?_
          | refine Y_res (r_eql rfl rfl) rfl ?_
          | (refine X_buildV rfl rfl (fun u hu => by simp at hu; rw [hu]; rfl) rfl (by simp) rfl ?_; intro _ _)
          | (refine X_appendV (s := 1) rfl rfl (fun w_ hM => rdv_blk (r := []) hM.head (List.append_nil _).symm rfl (Nat.le_refl 1) (by decide)) (fun u hu => by simp at hu; rw [hu]; rfl) rfl (by decide) rfl rfl (by omega) (by omega) rfl ?_; intro _ _)
        rename_i g9 hg9 A4 c4
        refine XT_round (k + 1, (pd, q'), ({ l1 with at_ := l1.at_ + needs b.length, nx := l1.nx + 1, list := l1.list ++ [b] }, a2), (A4, c4), rs ++ [(b, 1)], js ++ [itI .u8 B d b]) ⟨by dsimp only; omega, fun _ => hL20, hS2, fun x hx => ?_⟩ (by dsimp only; omega) ⟨rfl, rfl, rfl, rfl, rfl, by dsimp only; rw [el]; rfl, rfl, rfl, rfl, rfl, rfl, rfl, trivial⟩ (fun w1 h => ?_)
        · have hx : x ∈ l1.list ++ [b] := hx
          rw [List.mem_append, List.mem_singleton] at hx
          rcases hx with hx | rfl
          · exact hx1000 x hx
          · exact hbl
        · dsimp only
          rw [el, List.map_append]
          exact h.tail
      · have hff := append_full (p := q) (l := l1) (b := b) hS.go.br (by omega) (by omega)
        repeat first
          | refine XC_region ?_
          | refine XC_seq ?_
          | refine XT_seq ?_
          | refine XC_skip ?_
          | refine Y_res (r_move rfl) rfl ?_
        refine X_call (g := 12) rfl rfl (fun w1 q1 => (append_any (gl := gl) (g := g) (l := l1) (a := a1) (pa := pc) (p := q) (es := [Ch.sv Aw cw 30 1 l1.list.length (js.map It.val)]) b B d (wp_in q1) hS.go.up.ok hS.go.ok hS.go.op (by omega) hS.go.ll (fun cs w1 h1 => hrd.old h1 old_false) hS.go.js).mono ?_)
        rintro e w2 ⟨a2, pd, rfl, q2, hj2⟩
        rw [hff] at q2 hj2 ⊢
        refine ⟨_, rfl, _, wp_out q2, ?_⟩
        clear q1 q2
        have hS2 : Gs size (i + 1) q l1 a2 rs js w := ⟨⟨hS.go.up, hS.go.ok, hS.go.op, hS.go.br, hS.go.tn, hj2⟩, hS.to, hS.gn, hS.on, hS.nx, hS.ll, hS.ld, hS.lo, hS.bh, hS.nl, hS.jk, hS.rd, hS.pn⟩
        repeat first
          | refine XC_region ?_
          | refine X_nil ?_
          | refine XC_condF rfl ?_
          | refine XT_seq ?_
          | refine XT_block_normal ?_
          | refine XC_skip ?_
          | refine Y_res (r_move rfl) rfl ?_
          | refine Y_res (r_add64 rfl rfl (by omega)) rfl ?_
          | refine Y_res (r_eql rfl rfl) rfl ?_
        exact XT_round (k + 1, (pd, q), (l1, a2), (Aw, cw), rs, js) ⟨by dsimp only; omega, fun _ => hL20, hS2, hx1000⟩ (by dsimp only; omega) ⟨rfl, rfl, rfl, rfl, rfl, rfl, rfl, rfl, rfl, rfl, rfl, rfl, trivial⟩ (fun w1 h => h)
    · obtain ⟨z1, z2, z3⟩ := hS.len
      have hgo := hS.go
      obtain ⟨ea, eb, ec⟩ := hS.again (by omega)
      have hop := topTo_lt hgo.up.ok hgo.up.wf (i + 1) 2 size (by rw [hS.pn]; omega)
      refine XC_mem (M' := Hp w (fun _ => False) (PlC g pc q [Ch.sv Aw cw 30 1 l1.list.length (js.map It.val)])) (fun w1 h => plc_in (Hp.sublist h (.cons_cons _ (.cons _ (.cons _ (.cons _ (List.Sublist.refl _))))))) ?_
      repeat first
        | refine XC_region ?_
        | refine XC_seq ?_
        | refine XT_seq ?_
        | refine XT_block_same rfl ?_
        | refine XT_then_exit ?_
        | refine XC_exit ?_
        | refine Y_res (r_move rfl) rfl ?_
        | refine Y_res (r_add64 rfl rfl (by omega)) rfl ?_
      refine X_call (g := 11) rfl rfl (fun w1 q1 => (open_any 2 (2 + size) (i + 1) q1 hgo.up.ok hgo.up.dn hgo.up.wf (by omega) (by rw [hS.pn]; omega) (by omega)).mono ?_)
      rintro e w2 ⟨gl2, a2, rfl, q2, hj2⟩
      obtain ⟨l2, hl2⟩ : ∃ l2, l2 = openP (nowAt q) 2 (2 + size) (i + 1) := ⟨_, rfl⟩
      have eto : l2.to = 2 + size := by rw [hl2]; rfl
      have egn : l2.gen = i + 1 := by rw [hl2]; rfl
      have eop : l2.op ≤ 4294967296 := by rw [hl2]; show topTo (nowAt q) (i + 1) 2 (2 + size - 2) + 1 ≤ _; rw [show 2 + size - 2 = size by omega]; omega
      rw [← hl2] at q2 hj2 ea eb ec
      refine ⟨_, rfl, _, q2, ?_⟩
      clear q1 q2 hl2
      have hnx := hS.nx
      have hok2 : LgOk l2 := ⟨by rw [eb, eto]; exact z3, by rw [eto]; omega, by rw [egn]; omega, eop, by rw [ec]; omega, by rw [ea]; omega⟩
      rw [← ea] at hx1000
      repeat first
        | refine XC_region ?_
        | refine X_nil ?_
        | refine XC_seq ?_
        | refine XT_seq ?_
        | refine Y_res (r_move rfl) rfl ?_
        | refine Y_res (r_assign rfl) rfl ?_
        | refine Y_res (r_neq rfl rfl) rfl ?_
        | refine Y_res (r_eqlNil rfl rfl) rfl ?_
        | refine Y_on rfl rfl ?_
        | refine Y_res (r_extract rfl rfl) rfl ?_
        | refine Y_res (r_pickF rfl rfl) rfl ?_
      refine X_call (g := 14) rfl rfl (fun w1 q1 => (records_any q1 hok2 hj2 (fun x hx => Nat.le_trans (hx1000 x hx) (by decide))).mono ?_)
      rintro e w2 ⟨A5, c5, js5, rfl, hj5, q2⟩
      refine ⟨_, rfl, _, q2, ?_⟩
      clear q1 q2
      rw [ea] at hj5 ⊢
      have hLa : ∀ w1, Hp w (fun _ => False) (Ch.sv A5 c5 30 1 l1.list.length (js5.map It.val) :: Ch.bagN js5 :: WlC gl2 g l2 a2 (PlC g pc q [Ch.sv Aw cw 30 1 l1.list.length (js.map It.val)])) w1 → LLs .u8 w1 A5 c5 l1.list := fun w1 h => lls_js h.head (fun it hit => bagN_rd h.tail.head hit) hj5
      have hLb : ∀ w1, Hp w (fun _ => False) (Ch.sv A5 c5 30 1 l1.list.length (js5.map It.val) :: Ch.bagN js5 :: WlC gl2 g l2 a2 (PlC g pc q [Ch.sv Aw cw 30 1 l1.list.length (js.map It.val)])) w1 → LLs .u8 w1 Aw cw l1.list := fun w1 h => lls_js (wp_out h.tail.tail).head (fun it hit => RdV.old (hS.rd it hit) h old_false) hS.jk
      repeat first
        | refine Y_res (r_move rfl) rfl ?_
        | refine Y_on rfl rfl ?_
      refine Y_says (g := 20) rfl rfl (fun w1 hM => samell_any l1.list l1.list A5 Aw c5 cw w1 (hLa w1 hM) (hLb w1 hM)) ?_
      rw [decide_eq_true (rfl : l1.list = l1.list)]
      repeat first
        | refine XC_region ?_
        | refine X_nil ?_
        | refine XC_condF rfl ?_
        | refine XT_seq ?_
        | refine XT_block_normal ?_
        | refine XC_skip ?_
        | refine Y_res (r_move rfl) rfl ?_
        | refine Y_res (r_add64 rfl rfl (by omega)) rfl ?_
        | refine Y_on rfl rfl ?_
        | refine Y_res (r_notB rfl) rfl ?_
        | refine Y_res (r_pickF rfl rfl) rfl ?_
      exact XT_round (i + 1, pc, q) ⟨by dsimp only; omega, hgo.up, hS.pn, hS.nl⟩ (by dsimp only; omega) ⟨rfl, rfl, rfl, rfl, rfl, trivial⟩ (fun w1 h => plc_drop (Hp.sublist h (.cons _ (.cons _ (.cons _ (.cons _ (.cons _ (List.Sublist.refl _))))))))
  · repeat first
      | refine XC_region ?_
      | refine X_nil ?_
      | refine XC_seq ?_
      | refine XT_seq ?_
      | refine XT_block_same rfl ?_
      | refine XT_then_exit ?_
      | refine XC_exit ?_
      | refine XC_ret ?_
      | refine Y_res (r_assign rfl) rfl ?_
    exact XT_says (.inl rfl) Try.results6 rfl rfl
end Go.Proofs.Ytgfpibojgkleiaa.NWl
