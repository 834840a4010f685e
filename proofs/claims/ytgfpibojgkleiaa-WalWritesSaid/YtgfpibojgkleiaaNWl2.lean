/- A log: where it lies; a sector read: walked. -/
import Derived.Test.YtgfpibojgkleiaaNWl
namespace Go.Proofs.Ytgfpibojgkleiaa.NWl
open Go Go.RowKit Go.Proofs.Ytgfpibojgkleiaa.MX Go.Proofs.Ytgfpibojgkleiaa.PWal Go.Proofs.Ytgfpibojgkleiaa.NPl
set_option linter.unusedVariables false
set_option linter.unusedSimpArgs false
set_option linter.unusedVariables false
/-- A log: the next free sector and the end, its generation, the opening, the next record's number, the records. -/
structure Lg where
  at_ : Nat
  to : Nat
  gen : Nat
  op : Nat
  nx : Nat
  list : List (List Int)
  broken : Bool
/-- Where its records lie. -/
structure La where
  A : Option Addr
  c : Nat
  js : List It
def lgC (g : Nat) (l : Lg) (a : La) : List Value := [.pointer (some ⟨g, 0, none⟩), .int .i64 l.at_, .int .i64 l.to, .int .i64 l.gen, .int .i64 l.op, .int .i64 l.nx, .slice a.A l.list.length a.c, .bool l.broken]
def WlC (gl g : Nat) (l : Lg) (a : La) (es : List Ch) : List Ch := Ch.blk gl (lgC g l a) 59 :: Ch.sv a.A a.c 30 1 l.list.length (a.js.map It.val) :: Ch.bagN a.js :: es
structure LgOk (l : Lg) : Prop where
  le : l.at_ ≤ l.to
  to : l.to ≤ 16384
  gen : 1 ≤ l.gen ∧ l.gen < 2147483648
  op : l.op ≤ 4294967296
  nx : l.nx ≤ 100000
  ll : l.list.length ≤ 100000
/-- A disk of bytes. -/
def PlWf (p : Pl) : Prop := ∀ s ∈ p.now, ∀ x ∈ s, 0 ≤ x ∧ x < 256
/-- A sector's cells, once it is taken apart. -/
def scC (s : Sc) (b : Nat) : List Value := [.int .i64 s.gen, .int .i64 s.op, .int .i64 s.num, .int .i64 s.place, .int .i64 s.last, .slice (some ⟨b, 16, none⟩) 48 48]
theorem scC_one (s : Sc) (b : Nat) : ∀ v ∈ scC s b, v.oneCell' = true := by simp [scC, Value.oneCell']
def nowAt (p : Pl) (i : Nat) : List Int := p.now.getD i []
theorem num_at (xs : List Int) (A : Option Addr) (c n : Nat) (w : World) (hr : Rds w A c .u8 xs) (hn : xs.length = n) (hl : n ≤ 4) (hwf : ∀ x ∈ xs, 0 ≤ x ∧ x < 256) :
    Calls Try.prog 37 #[.slice A n c] w (Says w (.int .i64 (numS xs))) := by
  subst hn
  exact num_any xs A c w hr hl hwf
theorem plw (gl g l a pg pa p) (es : List Ch) : (WlC gl g l a (PlC pg pa p es)).Perm (PlC pg pa p (WlC gl g l a es)) := List.perm_append_comm_assoc (WlC gl g l a []) (PlC pg pa p []) es
section
variable {gl g : Nat} {l : Lg} {a : La} {pa : Ad} {p : Pl} {w w0 : World} {TS : Nat → Prop} {es : List Ch}
theorem wl_pl (h : Hp w0 TS (WlC gl g l a (PlC g pa p es)) w) : Hp w0 TS (PlC g pa p (WlC gl g l a es)) w := h.of_perm (plw _ _ _ _ _ _ _ _)
theorem pl_wl (h : Hp w0 TS (PlC g pa p (WlC gl g l a es)) w) : Hp w0 TS (WlC gl g l a (PlC g pa p es)) w := h.of_perm (plw _ _ _ _ _ _ _ _).symm
set_option maxRecDepth 100000 in
set_option maxHeartbeats 4000000 in
theorem read_any (i : Nat) (hT : Hp w0 TS (WlC gl g l a (PlC g pa p es)) w) (hp : PlOk p) (hd : p.down = false) (hi : i < p.n) (hwf : PlWf p) :
    Calls Try.prog 27 #[.pointer (some ⟨gl, 0, none⟩), .int .i64 i] w fun e w' => ∃ b, e = .returned (.tuple #[.agg (scC (rdS (nowAt p i)) b).toArray, .int .i64 0]) ∧ Hp w0 TS (Ch.ints b .u8 (nowAt p i) 74 :: WlC gl g l a (PlC g pa p es)) w' := by
  have hnl := hp.nl
  obtain ⟨s, hs⟩ : ∃ s, p.now[i]? = some s := ⟨p.now[i]'(by omega), List.getElem?_eq_getElem (by omega)⟩
  have hsl : s.length = 64 := hp.ns s (List.mem_of_getElem? hs)
  have hsw := hwf s (List.mem_of_getElem? hs)
  have hsn : nowAt p i = s := by rw [nowAt, List.getD_eq_getElem?_getD, hs]; rfl
  rw [hsn]
  refine calls_of_X (vs := [_, _]) (M := Hp w0 TS (WlC gl g l a (PlC g pa p es))) Try.func27 rfl Try.ntmps27 rfl hT ?_
  clear hT
  repeat first
    | refine XC_region ?_
    | refine XC_seq ?_
  refine X_allocB (zs := [.int .i64 0, .int .i64 0, .int .i64 0, .int .i64 0, .int .i64 0, .slice none 0 0]) rfl rfl (fun gs hgs => ?_)
  repeat first
    | refine XC_region ?_
    | refine X_nil ?_
    | refine XC_seq ?_
    | refine XT_seq ?_
    | refine Y_res (r_move rfl) rfl ?_
    | refine Y_res (r_assign rfl) rfl ?_
    | refine Y_res (r_field' rfl) rfl ?_
    | refine Y_res (r_nilCheck rfl) rfl ?_
  unfold WlC lgC
  repeat first
    | refine Y_res (r_move rfl) rfl ?_
    | refine Y_res (r_loadB rfl rfl) rfl ?_
  refine X_call (g := 36) rfl rfl (fun w1 q1 => (read_es i s hp hd hs (es := Ch.blk gs [.int .i64 0, .int .i64 0, .int .i64 0, .int .i64 0, .int .i64 0, .slice none 0 0] 61 :: WlC gl g l a es) (q1.of_perm ((List.Perm.cons _ (plw gl g l a g pa p es)).trans (List.perm_middle (l₁ := PlC g pa p [])).symm))).mono ?_)
  rintro e w2 ⟨b, rfl, q2⟩
  refine ⟨_, rfl, _, q2.of_perm (List.Perm.cons _ ((List.perm_middle (l₁ := PlC g pa p [])).trans (List.Perm.cons _ (plw gl g l a g pa p es).symm))), ?_⟩
  clear q1 q2
  have hr : ∀ w1, Hp w0 TS (Ch.ints b .u8 s 74 :: Ch.blk gs [.int .i64 0, .int .i64 0, .int .i64 0, .int .i64 0, .int .i64 0, .slice none 0 0] 61 :: WlC gl g l a (PlC g pa p es)) w1 → Rds w1 (some ⟨b, 0, none⟩) 64 .u8 s := fun w1 h => rds_ints h.head (by omega) (by decide)
  have hw1 : ∀ n, ∀ x ∈ s.take n, 0 ≤ x ∧ x < 256 := fun n x hx => hsw x (List.mem_of_mem_take hx)
  have hw2 : ∀ n m, ∀ x ∈ (s.take n).drop m, 0 ≤ x ∧ x < 256 := fun n m x hx => hw1 n x (List.mem_of_mem_drop hx)
  repeat first
    | refine XC_region ?_
    | refine XC_tailF (by kernel_rfl) (by kernel_rfl) drw_hp ?_
    | refine X_nil ?_
    | refine XC_condF rfl ?_
    | refine XC_seq ?_
    | refine XT_seq ?_
    | refine XC_skip ?_
    | refine Y_res (r_move rfl) rfl ?_
    | refine Y_res (r_assign rfl) rfl ?_
    | refine Y_res (r_neq rfl rfl) rfl ?_
    | refine Y_res (r_cut0 rfl rfl (by omega)) rfl ?_
    | refine Y_res (r_extract rfl rfl) rfl ?_
  refine Y_says (g := 37) rfl rfl (fun w1 hM => num_at (s.take 4) (some ⟨b, 0, none⟩) 64 4 w1 ((hr w1 hM).take 4) (by simp [hsl]) (by decide) (hw1 4)) ?_
  repeat first
    | refine Y_res (r_move rfl) rfl ?_
    | refine Y_res (r_cutLH rfl rfl rfl (by omega) (by omega)) rfl ?_
  refine Y_says (g := 37) rfl rfl (fun w1 hM => num_at ((s.take 8).drop 4) _ _ 4 w1 ((hr w1 hM).cut 4 8 (by decide) (by omega)) (by simp [hsl]) (by decide) (hw2 8 4)) ?_
  repeat first
    | refine Y_res (r_move rfl) rfl ?_
    | refine Y_res (r_cutLH rfl rfl rfl (by omega) (by omega)) rfl ?_
  refine Y_says (g := 37) rfl rfl (fun w1 hM => num_at ((s.take 12).drop 8) _ _ 4 w1 ((hr w1 hM).cut 8 12 (by decide) (by omega)) (by simp [hsl]) (by decide) (hw2 12 8)) ?_
  repeat first
    | refine Y_res (r_move rfl) rfl ?_
    | refine Y_res (r_cutLH rfl rfl rfl (by omega) (by omega)) rfl ?_
  refine Y_says (g := 37) rfl rfl (fun w1 hM => num_at ((s.take 14).drop 12) _ _ 2 w1 ((hr w1 hM).cut 12 14 (by decide) (by omega)) (by simp [hsl]) (by decide) (hw2 14 12)) ?_
  repeat first
    | refine Y_res (r_move rfl) rfl ?_
    | refine Y_res (r_cutLH rfl rfl rfl (by omega) (by omega)) rfl ?_
  refine Y_says (g := 37) rfl rfl (fun w1 hM => num_at ((s.take 16).drop 14) _ _ 2 w1 ((hr w1 hM).cut 14 16 (by decide) (by omega)) (by simp [hsl]) (by decide) (hw2 16 14)) ?_
  repeat first
    | refine X_nil ?_
    | refine XQ_nilX ?_
    | refine XT_seq ?_
    | refine XC_ret ?_
    | refine Y_res (r_move rfl) rfl ?_
    | refine Y_res (r_assign rfl) rfl ?_
    | refine Y_res (r_cutL rfl rfl (by omega)) rfl ?_
    | refine Y_res (r_buildX (v := .agg (scC (rdS s) b).toArray) rfl (fun w => by kernel_rfl)) rfl ?_
    | refine X_storeW (vs := scC (rdS s) b) rfl rfl rfl (by rfl) (scC_one _ _) ?_
  refine XT_retCT (.inl rfl) Try.results27 rfl rfl (by rfl) (fun w' h => ⟨b, rfl, ?_⟩)
  exact h.of_perm (List.Perm.swap _ _ _) |>.tail
end
end Go.Proofs.Ytgfpibojgkleiaa.NWl
