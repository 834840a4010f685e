/- WalKeeps, walked: true at every input. -/
import Derived.Test.YtgfpibojgkleiaaNWlE
import Derived.Test.YtgfpibojgkleiaaNWlSm
import Derived.Test.YtgfpibojgkleiaaMXD
namespace Go.Proofs.Ytgfpibojgkleiaa.NWl
open Go Go.RowKit Go.Proofs.Ytgfpibojgkleiaa.MX Go.Proofs.Ytgfpibojgkleiaa.PWal Go.Proofs.Ytgfpibojgkleiaa.NPl Go.Proofs.Ytgfpibojgkleiaa.NSame
set_option linter.unusedVariables false
set_option linter.unusedSimpArgs false
set_option linter.unusedVariables false
def shTn := shRec Try.underlying51 (shCons shLL (shCons (shInt .i64 Try.underlying3) (shCons shBs shNil)))
def shTns := shSl Try.underlying49 shTn
abbrev TnD := LlD × Int × BlD × Unit
/-- A life's cells. -/
def tnC (o : TnD) : List Value := [.slice o.1.1 (lss o.1.2.2).length o.1.2.1, .int .i64 o.2.1, .slice o.2.2.1.1 o.2.2.1.2.2.length o.2.2.1.2.1]
theorem tnC_one (o : TnD) : ∀ v ∈ tnC o, v.oneCell' = true := by simp [tnC, Value.oneCell']
/-- What is known of a life. -/
structure TnOk (w : World) (o : TnD) : Prop where
  ls : LLs .u8 w o.1.1 o.1.2.1 (lss o.1.2.2)
  wf : ∀ x ∈ lss o.1.2.2, ∀ n ∈ x, (Lit.int .u8 n).wf = true
  ln : ∀ x ∈ lss o.1.2.2, x.length ≤ 140737488355327
  am : (Lit.int .i64 o.2.1).wf = true
  kp : RdV w o.2.2.1.1 o.2.2.1.2.1 1 o.2.2.1.2.2.length (o.2.2.1.2.2.map Value.bool)
/-- The lives that come in, read. -/
structure Tns (w : World) (l : List TnD) (A : Option Addr) (c : Nat) : Prop where
  ad : 0 < l.length → A = some (adOf A)
  le : l.length ≤ c
  lm : l.length ≤ 9223372036854775807
  at_ : ∀ j o, l[j]? = some o → (∀ i v, (tnC o)[i]? = some v → w.cell? (((adOf A).add (j * 3)).add i) = some v) ∧ TnOk w o
theorem tns_at {w : World} {l : List TnD} {A : Option Addr} {c : Nat} (h : shTns.has w [.slice A l.length c] (A, c, l)) : Tns w l A c := by
  obtain ⟨h1, h2, h3, h4, _, h5⟩ := h
  have hm : maxLen ≤ 9223372036854775807 := by decide
  refine ⟨fun hp => ?_, h2, by have h3 : c ≤ maxLen := h3; have h2 : l.length ≤ c := h2; omega, fun j o hj => ?_⟩
  · cases A with
    | none => have := h4 rfl; dsimp only at this h2; omega
    | some a => rfl
  obtain ⟨cs, g1, g2, g3⟩ := h5 j o hj
  have e3 : Try.prog.cellsOf 51 = 3 := by kernel_rfl
  rw [e3] at g1 g2
  match cs, g1 with
  | [c0, c1, c2], _ =>
    obtain ⟨_, k1, k2, k3, _⟩ := g3
    have k1' := k1
    have k3' := k3
    have q1 : [c0] = [Value.slice o.1.1 o.1.2.2.length o.1.2.1] := k1.1
    have q2 : [c1] = [Value.int .i64 o.2.1] := k2.1
    have q3 : [c2] = [Value.slice o.2.2.1.1 o.2.2.1.2.2.length o.2.2.1.2.1] := k3.1
    obtain rfl := (List.cons.inj q1).1
    obtain rfl := (List.cons.inj q2).1
    obtain rfl := (List.cons.inj q3).1
    obtain ⟨r1, r2, r3⟩ := lls_at k1'
    have e : o.1.2.2.length = (lss o.1.2.2).length := (List.length_map ..).symm
    exact ⟨fun i v hv => by rw [add_add _ _ _ (.inr trivial)]; unfold tnC at hv; rw [← e] at hv; exact g2 i v hv, r1, r3, r2, k2.2, bs_rdv k3'⟩
section
variable {gl g : Nat} {l : Lg} {a : La} {pa : Ad} {p : Pl} {w w0 : World} {TS : Nat → Prop} {es : List Ch} {x y : Ch}
theorem pl2_in (h : Hp w0 TS (x :: y :: PlC g pa p es) w) : Hp w0 TS (PlC g pa p (x :: y :: es)) w := h.of_perm (List.perm_append_comm_assoc [x, y] (PlC g pa p []) es)
theorem pl2_out (h : Hp w0 TS (PlC g pa p (x :: y :: es)) w) : Hp w0 TS (x :: y :: PlC g pa p es) w := h.of_perm (List.perm_append_comm_assoc (PlC g pa p []) [x, y] es)
theorem wl2_in (h : Hp w0 TS (x :: y :: WlC gl g l a es) w) : Hp w0 TS (WlC gl g l a (x :: y :: es)) w := h.of_perm (List.perm_append_comm_assoc [x, y] (WlC gl g l a []) es)
theorem wl2_out (h : Hp w0 TS (WlC gl g l a (x :: y :: es)) w) : Hp w0 TS (x :: y :: WlC gl g l a es) w := h.of_perm (List.perm_append_comm_assoc (WlC gl g l a []) [x, y] es)
theorem wp2_in (h : Hp w0 TS (x :: y :: WlC gl g l a (PlC g pa p es)) w) : Hp w0 TS (WlC gl g l a (PlC g pa p (x :: y :: es))) w := h.of_perm (pWin gl g l a g pa p [x, y] es)
theorem wp2_out (h : Hp w0 TS (WlC gl g l a (PlC g pa p (x :: y :: es))) w) : Hp w0 TS (x :: y :: WlC gl g l a (PlC g pa p es)) w := h.of_perm (pWin gl g l a g pa p [x, y] es).symm
set_option maxHeartbeats 1000000 in
theorem rneeds_any (n : Nat) (w : World) (hn : n ≤ 1000000) : Calls Try.prog 25 #[.int .i64 n] w (Says w (.int .i64 (needs n))) := by
  refine calls_of_X (vs := [_]) (M := Hp w (fun _ => False) []) Try.func25 rfl Try.ntmps25 rfl (Hp.nil _ _) ?_
  repeat first
    | refine XC_region ?_
    | refine X_nil ?_
    | refine XC_seq ?_
    | refine XT_seq ?_
    | refine XC_ret ?_
    | refine Y_res (r_move rfl) rfl ?_
    | refine Y_res (r_assign rfl) rfl ?_
    | refine Y_res (r_add64 rfl rfl (by omega)) rfl ?_
    | refine Y_res (r_quo rfl rfl (by omega)) rfl ?_
  exact XT_says (.inl rfl) Try.results25 rfl (congrArg (Value.int .i64) (by unfold needs; omega))
end
/-- Revived with nothing under way. -/
theorem Ups.rev {p : Pl} (h : Ups p) (ks : List Bool) : Ups (revP p ks) ∧ (revP p ks).left < 0 ∧ (revP p ks).n = p.n ∧ ∀ j, nowAt (revP p ks) j = nowAt p j := by
  have e : revS (fun j => ks.getD j false) p.loose p.safe p.loose.length = p.now := by
    rw [h.ls]
    exact h.sn
  have hok : PlOk (revP p ks) := ok_rev h.ok ks
  have en : (revP p ks).now = p.now := e
  have es : (revP p ks).safe = p.now := e
  exact ⟨⟨hok, rfl, rfl, fun s hs => h.wf s (by rw [← en]; exact hs), es.trans en.symm⟩, (show (-1 : Int) < 0 by decide), rfl, fun j => by unfold nowAt; rw [en]⟩
/-- Where a life is: it goes on, or it was cut off. -/
structure Kp (to K : Nat) (m : Bool) (q : Pl) (l : Lg) (a : La) (rs : List (List Int × Nat)) (fb : List Int) (jn : Nat) : Prop where
  go : m = false → Lf 9 to 7 K q l a rs ∧ fb = []
  br : m = true → l.broken = true
  fl : fb.length ≤ 1000
  lk : LgOk l
  op : l.op < 4294967296
  qo : PlOk q
  lo : q.loose.length = jn
  jb : jn ≤ 100
  js : JOk .u8 a.js l.list
  rv : m = true → ∀ ks : List Bool, ((jn = needs fb.length ∧ ∀ i, i < jn → ks.getD i false = true) → ∃ o at', Js 9 to 7 K (revP q ks) (rs ++ [(fb, o)]) at') ∧ (¬ (jn = needs fb.length ∧ ∀ i, i < jn → ks.getD i false = true) → ∃ at', Js 9 to 7 K (revP q ks) rs at')
abbrev lsr (rs : List (List Int × Nat)) : List (List Int) := rs.map (·.1)
theorem Js.new9 {n to gen : Nat} (h1 : 8 ≤ n) (h2 : n ≤ 16384) (ht : to ≤ n) (ht0 : 9 < to) (hg : 1 ≤ gen ∧ gen < 2147483648) : Js 9 to gen 0 (new0 n) [] 9 :=
  ⟨ups_new h1 h2, (show (-1 : Int) < 0 by decide), ht, ht0, hg, rfl, Nat.le_of_lt ht0, ⟨fun i _ _ h => absurd h (new_gen hg.1), fun o hw => new_gen hg.1 hw.1⟩, fun i _ _ h => absurd h (new_gen hg.1)⟩
theorem Lf.armed' {from_ to gen K : Nat} {q : Pl} {l : Lg} {a : La} {rs : List (List Int × Nat)} (h : Lf from_ to gen K q l a rs) (m : Int) (hm : m ≤ 9223372036854775807) : Lf from_ to gen K (armP q m) l a rs :=
  ⟨h.up.arm m hm, h.tn, h.ft, h.tt, h.gn, h.op, h.nx, h.ll, h.br, h.ld, h.lo, h.ae, h.bh, h.fr, h.ops, h.js⟩
theorem Lf.jsa {from_ to gen K : Nat} {q : Pl} {l : Lg} {a a' : La} {rs : List (List Int × Nat)} (h : Lf from_ to gen K q l a rs) (hj : JOk .u8 a'.js l.list) : Lf from_ to gen K q l a' rs :=
  ⟨h.up, h.tn, h.ft, h.tt, h.gn, h.op, h.nx, h.ll, h.br, h.ld, h.lo, h.ae, h.bh, h.fr, h.ops, hj⟩
theorem Kp.of_lf {to K : Nat} {q : Pl} {l : Lg} {a : La} {rs : List (List Int × Nat)} (h : Lf 9 to 7 K q l a rs) (hK : K ≤ 1000000) : Kp to K false q l a rs [] 0 := by
  obtain ⟨h1, h2, h3⟩ := h.ok hK
  exact ⟨fun _ => ⟨h, rfl⟩, fun hx => (by cases hx), Nat.zero_le _, h1, h2, h.up.ok, by rw [h.up.ls]; rfl, Nat.zero_le _, h.js, fun hx => (by cases hx)⟩
theorem Kp.again {to K : Nat} {m : Bool} {q : Pl} {l : Lg} {a a' : La} {rs : List (List Int × Nat)} {fb : List Int} {jn : Nat} (h : Kp to K m q l a rs fb jn) (hj : JOk .u8 a'.js l.list) : Kp to K m q l a' rs fb jn :=
  ⟨fun hx => ⟨(h.go hx).1.jsa hj, (h.go hx).2⟩, h.br, h.fl, h.lk, h.op, h.qo, h.lo, h.jb, hj, h.rv⟩
theorem Lf.cutK {to K jn : Nat} {q q2 : Pl} {l : Lg} {a a' : La} {rs : List (List Int × Nat)} {b : List Int} (h : Lf 9 to 7 K q l a rs) (hK : K ≤ 1000000) (hbl : b.length ≤ 1000) (hfit : l.at_ + needs b.length ≤ l.to) (hqo : PlOk q2) (hqn : q2.n = q.n) (hjn : jn ≤ needs b.length) (hjl : q2.loose.length = jn) (hj : JOk .u8 a'.js l.list)
    (hrev : ∀ ks, Ups (revP q2 ks) ∧ (revP q2 ks).left < 0 ∧ ∀ x, nowAt (revP q2 ks) x = if (l.at_ ≤ x ∧ x < l.at_ + jn) ∧ ks.getD (x - l.at_) false = true then secB l.gen l.op l.nx b (x - l.at_) else nowAt q x) :
    Kp to K true q2 { l with broken := true } a' rs b jn := by
  obtain ⟨h1, h2, h3⟩ := h.ok hK
  have hnd := needs_bd b.length
  refine ⟨fun hx => (by cases hx), fun _ => rfl, hbl, ⟨h1.le, h1.to, h1.gen, h1.op, h1.nx, h1.ll⟩, h2, hqo, hjl, by omega, hj, fun _ ks => ?_⟩
  obtain ⟨r1, r2, r3⟩ := hrev ks
  have hc := h.cut (j := jn) (b := b) (k := fun z => ks.getD z false) hK (by omega) hfit hjn r1 r2 hqn r3
  exact ⟨fun hx => ⟨l.op, _, hc.1 hx⟩, fun hx => ⟨_, hc.2 hx⟩⟩
section
variable {gl g : Nat} {l : Lg} {a : La} {pa : Ad} {p : Pl} {w w0 : World} {TS : Nat → Prop} {es : List Ch} {x y s t : Ch}
theorem wl2_out2 (h : Hp w0 TS (s :: t :: WlC gl g l a (x :: y :: es)) w) : Hp w0 TS (s :: t :: x :: y :: WlC gl g l a es) w := h.of_perm (List.Perm.cons _ (List.Perm.cons _ (List.perm_append_comm_assoc (WlC gl g l a []) [x, y] es)))
end
set_option maxRecDepth 100000 in
set_option maxHeartbeats 8000000 in
theorem keeps_law (m : Int) (ts : List TnD) (A : Option Addr) (c : Nat) (w : World) (hm : (Lit.int .i64 m).wf = true) (h : shTns.has w [.slice A ts.length c] (A, c, ts)) :
    Calls Try.prog 8 #[.int .i64 m, .slice A ts.length c] w fun e w' => e = .returned (.bool true) ∧ Chg (fun _ => False) w w' := by
  have hm64 := wf64 hm
  obtain ⟨hA, hlc, hcm, hts⟩ := tns_at h
  have hts := Lib.hid hts
  clear h
  refine calls_of_X (Rr := Says w (.bool true)) (vs := [_, _]) (M := Hp w (fun _ => False) []) Try.func8 rfl Try.ntmps8 rfl (Hp.nil _ _) ?_
  repeat first
    | refine XC_region ?_
    | refine X_nil ?_
    | refine XC_condF rfl ?_
    | refine XC_seq ?_
    | refine XT_seq ?_
    | refine XC_skip ?_
    | refine Y_res (r_move rfl) rfl ?_
    | refine Y_res (r_assign rfl) rfl ?_
    | refine Y_res (r_lss rfl rfl) rfl ?_
    | refine Y_res (r_notB rfl) rfl ?_
    | refine Y_says (g := 9) rfl rfl (fun w1 hM => anchor_any w1) ?_
  refine Y_split rfl rfl (fun h1 => ?_) (fun h1 => ?_)
  · repeat first
      | refine XC_region ?_
      | refine X_nil ?_
      | refine XC_condT rfl ?_
      | refine XC_seq ?_
      | refine XT_seq ?_
      | refine XT_then_ret ?_
      | refine XC_ret ?_
      | refine Y_res (r_move rfl) rfl ?_
      | refine Y_res (r_assign rfl) rfl ?_
      | refine Y_off rfl rfl rfl ?_
      | refine Y_res (r_pickT rfl rfl) rfl ?_
    exact XT_says (.inl rfl) Try.results8 rfl rfl
  repeat first
    | refine Y_res (r_move rfl) rfl ?_
    | refine Y_res (r_gtr rfl rfl) rfl ?_
    | refine Y_on rfl rfl ?_
    | refine Y_res (r_pickF rfl rfl) rfl ?_
  refine Y_split rfl rfl (fun h2 => ?_) (fun h2 => ?_)
  · repeat first
      | refine XC_region ?_
      | refine X_nil ?_
      | refine XC_condT rfl ?_
      | refine XC_seq ?_
      | refine XT_seq ?_
      | refine XT_then_ret ?_
      | refine XC_ret ?_
      | refine Y_res (r_assign rfl) rfl ?_
      | refine Y_off rfl rfl rfl ?_
      | refine Y_res (r_pickT rfl rfl) rfl ?_
    exact XT_says (.inl rfl) Try.results8 rfl rfl
  repeat first
    | refine X_nil ?_
    | refine XT_seq ?_
    | refine Y_res (r_move rfl) rfl ?_
    | refine Y_res (r_gtr rfl rfl) rfl ?_
    | refine Y_on rfl rfl ?_
    | refine Y_res (r_len rfl) rfl ?_
    | refine Y_res (r_pickF rfl rfl) rfl ?_
  refine XC_condP rfl (fun h3 => ?_) (fun h3 => ?_)
  · repeat first
      | refine XC_region ?_
      | refine X_nil ?_
      | refine XC_seq ?_
      | refine XT_seq ?_
      | refine XT_then_ret ?_
      | refine XC_ret ?_
      | refine Y_res (r_assign rfl) rfl ?_
    exact XT_says (.inl rfl) Try.results8 rfl rfl
  obtain ⟨size, rfl⟩ : ∃ q : Nat, m = q := ⟨m.toNat, by omega⟩
  have hs1 : 1 ≤ size := by omega
  have hs100 : size ≤ 100 := by omega
  have hl12 : ts.length ≤ 12 := by omega
  repeat first
    | refine XC_region ?_
    | refine XC_seq ?_
    | refine XT_seq ?_
    | refine XC_skip ?_
  refine X_call (g := 10) rfl rfl (fun w1 q1 => (new_es 120 q1 (by decide) (by decide)).mono ?_)
  rintro e w2 ⟨g, pa, rfl, q2⟩
  refine ⟨_, rfl, _, q2, ?_⟩
  clear q1 q2
  have hJ0 : Js 9 (9 + size) 7 0 (new0 120) [] 9 := Js.new9 (by decide) (by decide) (by omega) (by omega) (by decide)
  generalize new0 120 = p at *
  repeat first
    | refine XC_region ?_
    | refine X_nil ?_
    | refine XC_condF rfl ?_
    | refine XC_seq ?_
    | refine XT_seq ?_
    | refine XC_block ?_
    | refine XC_skip ?_
    | refine Y_res (r_move rfl) rfl ?_
    | refine Y_res (r_assign rfl) rfl ?_
    | refine Y_res (r_eqlNil rfl rfl) rfl ?_
    | refine Y_res (r_len rfl) rfl ?_
  refine XC_loop (ι := Nat × (Ad × Pl) × (List (List Int × Nat) × Nat) × (Option Addr × Nat) × List It) (fun j => j.1 ≤ ts.length ∧ Js 9 (9 + size) 7 j.1 j.2.1.2 j.2.2.1.1 j.2.2.1.2 ∧ JOk .u8 j.2.2.2.2 (lsr j.2.2.1.1) ∧ (∀ it ∈ j.2.2.2.2, it.rd w) ∧ ∀ x ∈ lsr j.2.2.1.1, x.length ≤ 1000)
    (fun j => [(0, .int .i64 size), (5, .pointer (some ⟨g, 0, none⟩)), (6, .slice j.2.2.2.1.1 (lsr j.2.2.1.1).length j.2.2.2.1.2), (39, .slice A ts.length c), (40, .int .i64 ts.length), (41, .int .i64 j.1)])
    (fun j => Hp w (fun _ => False) (Ch.sv j.2.2.2.1.1 j.2.2.2.1.2 30 1 (lsr j.2.2.1.1).length (j.2.2.2.2.map It.val) :: PlC g j.2.1.1 j.2.1.2 [])) (fun j => ts.length - j.1) (0, (pa, p), ([], 9), (none, 0), []) ⟨Nat.zero_le _, hJ0, JOk.nil _, fun it hit => absurd hit (List.not_mem_nil), fun x hx => absurd hx (List.not_mem_nil)⟩ ⟨rfl, rfl, rfl, rfl, rfl, rfl, trivial⟩ (fun _ h => h.nilV _ _) ?_
  clear hJ0
  rintro ⟨i, ⟨pb, q⟩, ⟨rs, at_⟩, ⟨As, cs⟩, js⟩ ⟨hi, hJ, hjs, hrd, hxl⟩
  dsimp only at hi hJ hjs hrd hxl ⊢
  repeat first
    | refine XC_region ?_
    | refine X_nil ?_
    | refine XC_seq ?_
    | refine XT_seq ?_
    | refine Y_res (r_lss rfl rfl) rfl ?_
  refine XC_condP rfl (fun hlt => ?_) (fun hge => ?_)
  · have hi2 : i < ts.length := by omega
    have hA1 := hA (by omega)
    obtain ⟨o, ho⟩ : ∃ o, ts[i]? = some o := ⟨ts[i], List.getElem?_eq_getElem hi2⟩
    obtain ⟨hcell, hok⟩ := hts.out i o ho
    have hone := tnC_one o
    repeat first
      | refine XC_region ?_
      | refine XC_seq ?_
      | refine XT_seq ?_
      | refine XC_block ?_
      | refine XC_skip ?_
      | refine Y_res (r_indexRs rfl rfl hA1 hi2) rfl ?_
      | refine Y_res (r_loadA (vs := tnC o) rfl rfl (fun w1 hM j v hv => hM.old (hcell j v hv) (fun h => h))) rfl ?_
      | (refine X_allocB (zs := [.slice none 0 0, .int .i64 0, .slice none 0 0]) rfl rfl ?_; intro _ _)
    rename_i go hgo
    refine X_storeW (vs := tnC o) rfl rfl rfl (by rfl) hone ?_
    obtain ⟨⟨oA, oc, oL⟩, am, ⟨K, kc, ks⟩, un⟩ := o
    obtain ⟨hLs, hwf, hln, ham, hkd⟩ := hok
    clear hcell hone ho
    unfold tnC
    dsimp only at hLs hwf hln ham hkd ⊢
    generalize lss oL = L at hLs hwf hln ⊢
    have ham64 := wf64 ham
    have hkl := hkd.le
    have hkc := hkd.cap
    have hLl := hLs.le
    have hLc := hLs.cap
    repeat first
      | refine XC_region ?_
      | refine X_nil ?_
      | refine XC_seq ?_
      | refine XT_seq ?_
      | refine Y_res (r_gtr rfl rfl) rfl ?_
      | refine Y_res (r_len rfl) rfl ?_
      | refine Y_res (r_field' rfl) rfl ?_
      | refine Y_res (r_loadB rfl rfl) rfl ?_
    refine XC_condP rfl (fun h4 => ?_) (fun h4 => ?_)
    · repeat first
        | refine XC_region ?_
        | refine X_nil ?_
        | refine XC_seq ?_
        | refine XT_seq ?_
        | refine XT_block_ret ?_
        | refine XT_then_ret ?_
        | refine XC_ret ?_
        | refine Y_res (r_assign rfl) rfl ?_
      exact XT_says (.inl rfl) Try.results8 rfl rfl
    have hL12 : L.length ≤ 12 := by omega
    repeat first
      | refine XC_region ?_
      | refine XC_seq ?_
      | refine XT_seq ?_
      | refine XC_skip ?_
      | refine Y_res (r_move rfl) rfl ?_
      | refine Y_res (r_add64 rfl rfl (by omega)) rfl ?_
    refine X_call (g := 11) rfl rfl (fun w1 q1 => (open_any 9 (9 + size) 7 (pl2_in q1) hJ.up.ok hJ.up.dn hJ.up.wf (by omega) hJ.tn (by decide)).mono ?_)
    rintro e w2 ⟨gl, a, rfl, q2, hj⟩
    refine ⟨_, rfl, _, wp2_out q2, ?_⟩
    clear q1 q2
    obtain ⟨hF, hlist, hat⟩ := hJ.opened a hj
    obtain ⟨l1, hl1⟩ : ∃ l1, l1 = openP (nowAt q) 9 (9 + size) 7 := ⟨_, rfl⟩
    rw [← hl1] at hF hlist hat ⊢
    clear hj hl1 hat
    obtain ⟨hok1, hop1, htn1⟩ := hF.ok (by omega)
    repeat first
      | refine XC_region ?_
      | refine X_nil ?_
      | refine XC_seq ?_
      | refine XT_seq ?_
      | refine Y_res (r_move rfl) rfl ?_
      | refine Y_res (r_assign rfl) rfl ?_
      | refine Y_res (r_neq rfl rfl) rfl ?_
      | refine Y_res (r_eqlNil rfl rfl) rfl ?_
      | refine Y_on rfl rfl ?_
      | refine Y_res (r_extract rfl rfl) rfl ?_
      | refine Y_res (r_pickF rfl rfl) rfl ?_
    refine X_call (g := 14) rfl rfl (fun w1 q1 => (records_any (wl2_in q1) hok1 hF.js (fun x hx => by rw [hlist] at hx; exact Nat.le_trans (hxl x hx) (by decide))).mono ?_)
    rintro e w2 ⟨A2, c2, js2, rfl, hj2, q2⟩
    rw [hlist] at q2 hj2 ⊢
    refine ⟨_, rfl, _, wl2_out2 q2, ?_⟩
    clear q1 q2
    repeat first
      | refine Y_res (r_move rfl) rfl ?_
      | refine Y_on rfl rfl ?_
    refine Y_says (g := 20) rfl rfl (fun w1 hM => samell_any (lsr rs) (lsr rs) A2 As c2 cs w1 (lls_js hM.head (fun it hit => bagN_rd hM.tail.head hit) hj2) (lls_js hM.tail.tail.tail.head (fun it hit => RdV.old (hrd it hit) hM old_false) hjs)) ?_
    rw [decide_eq_true (rfl : lsr rs = lsr rs)]
    repeat first
      | refine XC_region ?_
      | refine X_nil ?_
      | refine XC_condF rfl ?_
      | refine XC_seq ?_
      | refine XT_seq ?_
      | refine XC_skip ?_
      | refine Y_res (r_move rfl) rfl ?_
      | refine Y_on rfl rfl ?_
      | refine Y_res (r_notB rfl) rfl ?_
      | refine Y_res (r_field' rfl) rfl ?_
      | refine Y_res (r_loadB rfl rfl) rfl ?_
      | refine Y_res (r_pickF rfl rfl) rfl ?_
    refine X_call (g := 22) rfl rfl (fun w1 q1 => (arm_any am (wl_pl (wp2_in q1.tail.tail))).mono ?_)
    rintro e w2 ⟨rfl, q2⟩
    refine ⟨_, rfl, _, wp2_out (pl_wl q2), ?_⟩
    clear q1 q2
    have hF1 := hF.armed' am (by omega)
    clear hF hJ hj2
    generalize armP q am = q1 at *
    have hK0 := Kp.of_lf hF1 (by omega)
    clear hF1 hlist hok1 hop1 htn1
    repeat first
      | refine XC_region ?_
      | refine X_nil ?_
      | refine XC_seq ?_
      | refine XT_seq ?_
      | refine XC_block ?_
      | refine Y_res (r_move rfl) rfl ?_
      | refine Y_res (r_assign rfl) rfl ?_
      | refine Y_res (r_len rfl) rfl ?_
      | refine Y_res (r_field' rfl) rfl ?_
      | refine Y_res (r_loadB rfl rfl) rfl ?_
    refine XC_loop (ι := Nat × Bool × (Ad × Pl) × (Lg × La) × (List (List Int × Nat) × (Option Addr × Nat) × List It) × (Option Addr × Nat × List Int) × Nat) (fun j => j.1 ≤ L.length ∧ Kp (9 + size) (i + 1) j.2.1 j.2.2.1.2 j.2.2.2.1.1 j.2.2.2.1.2 j.2.2.2.2.1.1 j.2.2.2.2.2.1.2.2 j.2.2.2.2.2.2 ∧ (JOk .u8 j.2.2.2.2.1.2.2 (lsr j.2.2.2.2.1.1) ∧ (∀ it ∈ j.2.2.2.2.1.2.2, it.rd w) ∧ ∀ x ∈ lsr j.2.2.2.2.1.1, x.length ≤ 1000) ∧ Rds w j.2.2.2.2.2.1.1 j.2.2.2.2.2.1.2.1 .u8 j.2.2.2.2.2.1.2.2)
      (fun j => [(0, .int .i64 size), (5, .pointer (some ⟨g, 0, none⟩)), (6, .slice j.2.2.2.2.1.2.1.1 (lsr j.2.2.2.2.1.1).length j.2.2.2.2.1.2.1.2), (8, .pointer (some ⟨go, 0, none⟩)), (9, .pointer (some ⟨gl, 0, none⟩)), (11, .slice j.2.2.2.2.2.1.1 j.2.2.2.2.2.1.2.2.length j.2.2.2.2.2.1.2.1), (12, .bool j.2.1), (39, .slice A ts.length c), (40, .int .i64 ts.length), (41, .int .i64 i), (74, .slice oA L.length oc), (75, .int .i64 L.length), (76, .int .i64 j.1)])
      (fun j => Hp w (fun _ => False) (Ch.blk go [.slice oA L.length oc, .int .i64 am, .slice K ks.length kc] 51 :: Ch.sv j.2.2.2.2.1.2.1.1 j.2.2.2.2.1.2.1.2 30 1 (lsr j.2.2.2.2.1.1).length (j.2.2.2.2.1.2.2.map It.val) :: WlC gl g j.2.2.2.1.1 j.2.2.2.1.2 (PlC g j.2.2.1.1 j.2.2.1.2 [])))
      (fun j => L.length - j.1) (0, false, (pb, q1), (l1, a), (rs, (As, cs), js), (none, 0, []), 0) ⟨Nat.zero_le _, hK0, ⟨hjs, hrd, hxl⟩, Rds.nil_ _ _⟩ ⟨rfl, rfl, rfl, rfl, rfl, rfl, rfl, rfl, rfl, rfl, rfl, rfl, rfl, trivial⟩ (fun _ h => h) ?_
    clear hK0 hjs hrd hxl
    clear rs As cs js q1 l1 a
    rintro ⟨k, cut, ⟨pc, q1⟩, ⟨l1, a1⟩, ⟨rs, ⟨As, cs⟩, js⟩, ⟨Bf, df, fb⟩, jn⟩ ⟨hk, hK, ⟨hjs, hrd, hxl⟩, hfr⟩
    dsimp only at hk hK hjs hrd hxl hfr ⊢
    have hloo := hK.lo
    have hjb := hK.jb
    repeat first
      | refine XC_region ?_
      | refine X_nil ?_
      | refine XC_seq ?_
      | refine XT_seq ?_
      | refine Y_res (r_lss rfl rfl) rfl ?_
    refine XC_condP rfl (fun hlt2 => ?_) (fun hge2 => ?_)
    · have hk2 : k < L.length := by omega
      have hLA := hLs.some (by omega)
      obtain ⟨b, hb⟩ : ∃ b, L[k]? = some b := ⟨L[k], List.getElem?_eq_getElem hk2⟩
      obtain ⟨B, d, hcell2, hrb⟩ := hLs.at_ k b hb
      have hbm := List.mem_of_getElem? hb
      have hb8 : ∀ x ∈ b, 0 ≤ x ∧ x < 256 := fun x hx => wf8 (hwf b hbm x hx)
      have hbl0 := hln b hbm
      repeat first
        | refine XC_region ?_
        | refine X_nil ?_
        | refine XC_seq ?_
        | refine XT_seq ?_
        | refine XC_block ?_
        | refine XC_skip ?_
        | refine Y_res (r_move rfl) rfl ?_
        | refine Y_res (r_assign rfl) rfl ?_
        | refine Y_res (r_gtr rfl rfl) rfl ?_
        | refine Y_res (r_len rfl) rfl ?_
        | refine Y_res (r_indexO rfl rfl hk2 hLA) rfl ?_
        | refine Y_res (r_loadO rfl hcell2 (fun h => h)) rfl ?_
      refine XC_condP rfl (fun h5 => ?_) (fun h5 => ?_)
      · repeat first
          | refine XC_region ?_
          | refine X_nil ?_
          | refine XC_seq ?_
          | refine XT_seq ?_
          | refine XT_block_ret ?_
          | refine XT_then_ret ?_
          | refine XC_ret ?_
          | refine Y_res (r_assign rfl) rfl ?_
        exact XT_says (.inl rfl) Try.results8 rfl rfl
      have hbl : b.length ≤ 1000 := by omega
      repeat first
        | refine XC_region ?_
        | refine XC_seq ?_
        | refine XT_seq ?_
        | refine XC_skip ?_
        | refine Y_res (r_move rfl) rfl ?_
      refine X_call (g := 12) rfl rfl (fun w1 q3 => (append_any (gl := gl) (g := g) (l := l1) (a := a1) b B d (wp2_in q3) hK.qo hK.lk hK.op (by omega) (by omega) (fun cs w1 h1 => hrb.old h1 old_false) hK.js).mono ?_)
      rintro e w2 ⟨a2, pd, rfl, q4, hj2⟩
      cases cut with
      | true =>
        have hap : appendL q1 l1 b = (q1, l1, 61) := by unfold appendL; rw [if_pos (hK.br rfl)]
        rw [hap] at q4 hj2 ⊢
        refine ⟨_, rfl, _, wp2_out q4, ?_⟩
        clear q3 q4
        repeat first
          | refine XC_region ?_
          | refine X_nil ?_
          | refine XC_condF rfl ?_
          | refine XC_seq ?_
          | refine XT_seq ?_
          | refine XC_block ?_
          | refine XT_block_normal ?_
          | refine XC_skip ?_
          | refine Y_res (r_move rfl) rfl ?_
          | refine Y_res (r_assign rfl) rfl ?_
          | refine Y_res (r_add64 rfl rfl (by omega)) rfl ?_
          | refine Y_res (r_eql rfl rfl) rfl ?_
          | refine Y_res (r_neq rfl rfl) rfl ?_
          | refine Y_on rfl rfl ?_
          | refine Y_res (r_pickT rfl rfl) rfl ?_
        exact XT_round (k + 1, true, (pd, q1), (l1, a2), (rs, (As, cs), js), (Bf, df, fb), jn) ⟨by dsimp only; omega, hK.again hj2, ⟨hjs, hrd, hxl⟩, hfr⟩ (by dsimp only; omega) ⟨rfl, rfl, rfl, rfl, rfl, rfl, rfl, rfl, rfl, rfl, rfl, rfl, rfl, trivial⟩ (fun _ h => h)
      | false =>
        obtain ⟨hF, hfb⟩ := hK.go rfl
        obtain ⟨hok1, hop1, htn1⟩ := hF.ok (by omega)
        by_cases hfit : l1.at_ + needs b.length ≤ l1.to
        · rcases append_armed (l := l1) (b := b) hF.up hb8 hF.br (by omega) hfit htn1 with ⟨q2, ha, hu2, hn2, hnow2, _⟩ | ⟨q2, j, ha, hqo, hqn, hjn, hjl, _, _, _, hrev⟩
          · rw [ha] at q4 hj2 ⊢
            refine ⟨_, rfl, _, wp2_out q4, ?_⟩
            clear q3 q4
            have hF2 := hF.next (by omega) (by omega) hfit hu2 hn2 hnow2 a2 hj2
            have hrl : (lsr rs).length ≤ 100000 := by have := hok1.ll; rwa [hF.ll] at this
            have hel : lsr (rs ++ [(b, l1.op)]) = lsr rs ++ [b] := List.map_append
            have hele : (lsr rs ++ [b]).length = (lsr rs).length + 1 := by simp
            repeat first
              | refine XC_region ?_
              | refine X_nil ?_
              | refine XC_condT rfl ?_
              | refine XC_condF rfl ?_
              | refine XC_seq ?_
              | refine XT_seq ?_
              | refine XC_block ?_
              | refine Y_res (r_move rfl) rfl ?_
              | refine Y_res (r_assign rfl) rfl ?_
              | refine Y_res (r_eql rfl rfl) rfl ?_
              | refine Y_off rfl rfl rfl ?_
              | refine Y_res (r_pickF rfl rfl) rfl ?_
              | (refine X_buildE (E := 30) (s := 1) (by decide) rfl ?_; intro _ _)
            refine X_appendV (s := 1) (ys := js.map It.val) (l2 := (lsr rs).length) rfl rfl (fun w_ hM => rdv_sv hM.tail.tail.head) (fun u hu => by rw [List.mem_map] at hu; obtain ⟨it, _, rfl⟩ := hu; rfl) rfl (by decide) rfl rfl (by omega) (by omega) rfl ?_
            intro A3 c3
            repeat first
              | refine XC_region ?_
              | refine X_nil ?_
              | refine XT_seq ?_
              | refine XT_block_normal ?_
              | refine Y_res (r_move rfl) rfl ?_
              | refine Y_res (r_assign rfl) rfl ?_
              | refine Y_res (r_add64 rfl rfl (by omega)) rfl ?_
              | (refine X_buildV rfl rfl (fun u hu => by simp at hu; rw [hu]; rfl) rfl (by simp) rfl ?_; intro _ _)
              | (refine X_appendV (s := 1) rfl rfl (fun w_ hM => rdv_blk (r := []) hM.head (List.append_nil _).symm rfl (Nat.le_refl 1) (by decide)) (fun u hu => by simp at hu; rw [hu]; rfl) rfl (by decide) rfl rfl (by omega) (by omega) rfl ?_; intro _ _)
            rename_i g9 hg9 A4 c4
            refine XT_re (e := 6) (v' := .slice A4 (lsr (rs ++ [(b, l1.op)])).length c4) rfl (by rw [hel, hele, Nat.zero_add]) ?_
            refine XT_round (k + 1, false, (pd, q2), ({ l1 with at_ := l1.at_ + needs b.length, nx := l1.nx + 1, list := l1.list ++ [b] }, a2), (rs ++ [(b, l1.op)], (A4, c4), js ++ [itI .u8 B d b]), (Bf, df, fb), 0) ⟨by dsimp only; omega, ?_, ⟨by dsimp only; rw [hel]; exact hjs.snoc B d b, fun it hit => ?_, fun x hx => ?_⟩, hfr⟩ (by dsimp only; omega) ⟨rfl, rfl, rfl, rfl, rfl, rfl, rfl, rfl, rfl, rfl, rfl, rfl, rfl, trivial⟩ (fun _ h => ?_)
            · have := Kp.of_lf hF2 (by omega)
              rw [hfb]
              exact this
            · rw [List.mem_append, List.mem_singleton] at hit
              rcases hit with hit | rfl
              · exact hrd it hit
              · exact hrb.toV
            · rw [hel, List.mem_append, List.mem_singleton] at hx
              rcases hx with hx | rfl
              · exact hxl x hx
              · exact hbl
            · dsimp only
              rw [hel, hele, List.map_append]
              rw [Nat.zero_add] at h
              exact Hp.sublist h.tail.swap (.cons_cons _ (.cons_cons _ (.cons _ (List.Sublist.refl _))))
          · rw [ha] at q4 hj2 ⊢
            refine ⟨_, rfl, _, wp2_out q4, ?_⟩
            clear q3 q4
            have hK2 := hF.cutK (a' := a2) (by omega) hbl hfit hqo hqn hjn hjl hj2 hrev
            repeat first
              | refine XC_region ?_
              | refine X_nil ?_
              | refine XC_condT rfl ?_
              | refine XC_condF rfl ?_
              | refine XC_seq ?_
              | refine XT_seq ?_
              | refine XC_block ?_
              | refine XT_block_normal ?_
              | refine Y_res (r_move rfl) rfl ?_
              | refine Y_res (r_assign rfl) rfl ?_
              | refine Y_res (r_add64 rfl rfl (by omega)) rfl ?_
              | refine Y_res (r_eql rfl rfl) rfl ?_
              | refine Y_off rfl rfl rfl ?_
              | refine Y_res (r_pickF rfl rfl) rfl ?_
            exact XT_round (k + 1, true, (pd, q2), ({ l1 with broken := true }, a2), (rs, (As, cs), js), (B, d, b), j) ⟨by dsimp only; omega, hK2, ⟨hjs, hrd, hxl⟩, hrb⟩ (by dsimp only; omega) ⟨rfl, rfl, rfl, rfl, rfl, rfl, rfl, rfl, rfl, rfl, rfl, rfl, rfl, trivial⟩ (fun _ h => h)
        · have hle1 := hok1.le
          have hnd := needs_bd b.length
          have hff := append_full (p := q1) (l := l1) (b := b) hF.br (by omega) (by omega)
          rw [hff] at q4 hj2 ⊢
          refine ⟨_, rfl, _, wp2_out q4, ?_⟩
          clear q3 q4
          repeat first
            | refine XC_region ?_
            | refine X_nil ?_
            | refine XC_condF rfl ?_
            | refine XC_seq ?_
            | refine XT_seq ?_
            | refine XC_block ?_
            | refine XT_block_normal ?_
            | refine XC_skip ?_
            | refine Y_res (r_move rfl) rfl ?_
            | refine Y_res (r_assign rfl) rfl ?_
            | refine Y_res (r_add64 rfl rfl (by omega)) rfl ?_
            | refine Y_res (r_eql rfl rfl) rfl ?_
            | refine Y_res (r_neq rfl rfl) rfl ?_
            | refine Y_off rfl rfl rfl ?_
            | refine Y_res (r_pickF rfl rfl) rfl ?_
          exact XT_round (k + 1, false, (pd, q1), (l1, a2), (rs, (As, cs), js), (Bf, df, fb), jn) ⟨by dsimp only; omega, hK.again hj2, ⟨hjs, hrd, hxl⟩, hfr⟩ (by dsimp only; omega) ⟨rfl, rfl, rfl, rfl, rfl, rfl, rfl, rfl, rfl, rfl, rfl, rfl, rfl, trivial⟩ (fun _ h => h)
    · repeat first
        | refine XC_region ?_
        | refine XC_seq ?_
        | refine XT_seq ?_
        | refine XT_block_same rfl ?_
        | refine XT_then_exit ?_
        | refine XC_exit ?_
        | refine Y_res (r_move rfl) rfl ?_
      refine X_call (g := 18) rfl rfl (fun w1 q3 => (loose_any (wl_pl (wp2_in q3))).mono ?_)
      rintro e w2 ⟨rfl, q4⟩
      rw [hloo]
      refine ⟨_, rfl, _, wp2_out (pl_wl q4), ?_⟩
      clear q3 q4
      repeat first
        | refine XC_region ?_
        | refine X_nil ?_
        | refine XC_seq ?_
        | refine XT_seq ?_
        | refine XC_block ?_
        | refine Y_res (r_move rfl) rfl ?_
        | refine Y_res (r_assign rfl) rfl ?_
      refine XC_loop (ι := Nat × Bool) (fun z => z.1 ≤ jn ∧ (z.2 = true ↔ ∀ t, t < z.1 → ks.getD t false = true)) (fun z => [(0, .int .i64 size), (5, .pointer (some ⟨g, 0, none⟩)), (6, .slice As (lsr rs).length cs), (8, .pointer (some ⟨go, 0, none⟩)), (11, .slice Bf fb.length df), (12, .bool cut), (16, .int .i64 jn), (17, .bool z.2), (39, .slice A ts.length c), (40, .int .i64 ts.length), (41, .int .i64 i), (115, .int .i64 jn), (116, .int .i64 z.1)])
        (fun _ => Hp w (fun _ => False) (Ch.blk go [.slice oA L.length oc, .int .i64 am, .slice K ks.length kc] 51 :: Ch.sv As cs 30 1 (lsr rs).length (js.map It.val) :: WlC gl g l1 a1 (PlC g pc q1 []))) (fun z => jn - z.1) (0, true) ⟨Nat.zero_le _, by simp⟩ ⟨rfl, rfl, rfl, rfl, rfl, rfl, rfl, rfl, rfl, rfl, rfl, rfl, rfl, trivial⟩ (fun _ h => h) ?_
      rintro ⟨z, al⟩ ⟨hz, hal⟩
      dsimp only at hz hal ⊢
      repeat first
        | refine XC_region ?_
        | refine X_nil ?_
        | refine XC_seq ?_
        | refine XT_seq ?_
        | refine Y_res (r_lss rfl rfl) rfl ?_
      refine XC_condP rfl (fun hlt3 => ?_) (fun hge3 => ?_)
      · have hstep : ∀ v : Bool, v = (al && ks.getD z false) → (v = true ↔ ∀ t, t < z + 1 → ks.getD t false = true) := fun v hv => by
          rw [hv, Bool.and_eq_true, hal]
          exact ⟨fun h t ht => by
            by_cases htz : t = z
            · rw [htz]; exact h.2
            · exact h.1 t (by omega), fun h => ⟨fun t ht => h t (by omega), h z (Nat.lt_succ_self z)⟩⟩
        cases al with
        | false =>
          repeat first
            | refine XC_region ?_
            | refine X_nil ?_
            | refine XC_seq ?_
            | refine XT_seq ?_
            | refine XC_block ?_
            | refine XT_block_normal ?_
            | refine XC_skip ?_
            | refine Y_res (r_move rfl) rfl ?_
            | refine Y_res (r_assign rfl) rfl ?_
            | refine Y_res (r_add64 rfl rfl (by omega)) rfl ?_
            | refine Y_off rfl rfl rfl ?_
            | refine Y_res (r_pickF rfl rfl) rfl ?_
          exact XT_round (z + 1, false) ⟨by dsimp only; omega, hstep false rfl⟩ (by dsimp only; omega) ⟨rfl, rfl, rfl, rfl, rfl, rfl, rfl, rfl, rfl, rfl, rfl, rfl, rfl, trivial⟩ (fun _ h => h)
        | true =>
          rcases Nat.lt_or_ge z ks.length with hzk | hzk
          · have hv : (ks.map Value.bool)[z]? = some (.bool (ks.getD z false)) := by rw [List.getElem?_map, List.getD_eq_getElem?_getD, List.getElem?_eq_getElem hzk]; rfl
            repeat first
              | refine XC_region ?_
              | refine X_nil ?_
              | refine XC_seq ?_
              | refine XT_seq ?_
              | refine XC_block ?_
              | refine XT_block_normal ?_
              | refine XC_skip ?_
              | refine Y_res (r_move rfl) rfl ?_
              | refine Y_res (r_assign rfl) rfl ?_
              | refine Y_res (r_add64 rfl rfl (by omega)) rfl ?_
              | refine Y_res (r_lss rfl rfl) rfl ?_
              | refine Y_on rfl rfl ?_
              | refine Y_res (r_len rfl) rfl ?_
              | refine Y_res (r_field' rfl) rfl ?_
              | refine Y_res (r_loadB rfl rfl) rfl ?_
              | refine Y_res (r_pickT rfl rfl) rfl ?_
              | refine Y_splitT rfl rfl (by omega) ?_
              | refine Y_res (r_indexRv rfl rfl hkd hzk (by omega)) rfl ?_
              | refine Y_res (r_loadRv rfl hkd old_false hv) rfl ?_
            exact XT_round (z + 1, ks.getD z false) ⟨by dsimp only; omega, hstep _ rfl⟩ (by dsimp only; omega) ⟨rfl, rfl, rfl, rfl, rfl, rfl, rfl, rfl, rfl, rfl, rfl, rfl, rfl, trivial⟩ (fun _ h => h)
          · have hgf : ks.getD z false = false := by rw [List.getD_eq_getElem?_getD, List.getElem?_eq_none hzk]; rfl
            repeat first
              | refine XC_region ?_
              | refine X_nil ?_
              | refine XC_seq ?_
              | refine XT_seq ?_
              | refine XC_block ?_
              | refine XT_block_normal ?_
              | refine XC_skip ?_
              | refine Y_res (r_move rfl) rfl ?_
              | refine Y_res (r_assign rfl) rfl ?_
              | refine Y_res (r_add64 rfl rfl (by omega)) rfl ?_
              | refine Y_res (r_lss rfl rfl) rfl ?_
              | refine Y_on rfl rfl ?_
              | refine Y_off rfl rfl rfl ?_
              | refine Y_res (r_len rfl) rfl ?_
              | refine Y_res (r_field' rfl) rfl ?_
              | refine Y_res (r_loadB rfl rfl) rfl ?_
              | refine Y_res (r_pickT rfl rfl) rfl ?_
              | refine Y_res (r_pickF rfl rfl) rfl ?_
              | refine Y_splitF rfl rfl (by omega) ?_
            exact XT_round (z + 1, false) ⟨by dsimp only; omega, hstep _ (by rw [hgf]; rfl)⟩ (by dsimp only; omega) ⟨rfl, rfl, rfl, rfl, rfl, rfl, rfl, rfl, rfl, rfl, rfl, rfl, rfl, trivial⟩ (fun _ h => h)
      obtain rfl : z = jn := by omega
      repeat first
        | refine XC_region ?_
        | refine XC_seq ?_
        | refine XT_seq ?_
        | refine XT_block_same rfl ?_
        | refine XT_then_exit ?_
        | refine XC_exit ?_
        | refine Y_res (r_move rfl) rfl ?_
        | refine Y_res (r_field' rfl) rfl ?_
        | refine Y_res (r_loadB rfl rfl) rfl ?_
      refine X_call (g := 24) rfl rfl (fun w1 q3 => (revive_any ks K kc (wl_pl (wp2_in q3)) hK.qo (fun cs w1 h1 => RdV.old hkd h1 old_false)).mono ?_)
      rintro e w2 ⟨pe, rfl, q4⟩
      have q5 := pl2_out (Hp.sublist q4 ((List.Sublist.refl (PlC g pe (revP q1 ks) [])).append (List.sublist_append_right (WlC gl g l1 a1 []) [Ch.blk go [.slice oA L.length oc, .int .i64 am, .slice K ks.length kc] 51, Ch.sv As cs 30 1 (lsr rs).length (js.map It.val)])))
      refine ⟨_, rfl, _, q5, ?_⟩
      clear q3 q4 q5
      repeat first
        | refine XC_region ?_
        | refine X_nil ?_
        | refine XC_seq ?_
        | refine XT_seq ?_
        | refine Y_res (r_move rfl) rfl ?_
        | refine Y_res (r_notB rfl) rfl ?_
      cases cut with
      | false =>
        obtain ⟨hF, hfb⟩ := hK.go rfl
        obtain ⟨r1, r2, r3, r4⟩ := Ups.rev hF.up ks
        have hJ := hF.close r1 r2 r3 r4
        generalize revP q1 ks = q6 at *
        repeat first
          | refine XC_region ?_
          | refine X_nil ?_
          | refine XC_condT rfl ?_
          | refine XT_seq ?_
          | refine XT_block_same rfl ?_
          | refine XT_then_exit ?_
          | refine XC_exit ?_
          | refine Y_res (r_move rfl) rfl ?_
          | refine Y_res (r_add64 rfl rfl (by omega)) rfl ?_
        exact XT_round (i + 1, (pe, q6), (rs, l1.at_), (As, cs), js) ⟨by dsimp only; omega, hJ, hjs, hrd, hxl⟩ (by dsimp only; omega) ⟨rfl, rfl, rfl, rfl, rfl, rfl, trivial⟩ (fun _ h => h.tail)
      | true =>
        have hrv := hK.rv rfl ks
        have hfl := hK.fl
        obtain ⟨wh, hwh⟩ : ∃ wh : Bool, wh = true ↔ (z = needs fb.length ∧ al = true) := ⟨decide (z = needs fb.length ∧ al = true), by simp⟩
        obtain ⟨rs', at', hJ', hcase⟩ : ∃ rs' at', Js 9 (9 + size) 7 (i + 1) (revP q1 ks) rs' at' ∧ ((wh = true ∧ lsr rs' = lsr rs ++ [fb]) ∨ (wh = false ∧ lsr rs' = lsr rs)) := by
          cases wh with
          | true =>
            obtain ⟨h1, h2⟩ := hwh.1 rfl
            obtain ⟨o, at', hJ'⟩ := hrv.1 ⟨h1, hal.1 h2⟩
            exact ⟨_, _, hJ', .inl ⟨rfl, List.map_append⟩⟩
          | false =>
            obtain ⟨at', hJ'⟩ := hrv.2 (fun h => by cases hwh.2 ⟨h.1, hal.2 h.2⟩)
            exact ⟨_, _, hJ', .inr ⟨rfl, rfl⟩⟩
        clear hrv hal
        generalize revP q1 ks = q6 at *
        repeat first
          | refine XC_region ?_
          | refine XC_condF rfl ?_
          | refine XC_seq ?_
          | refine XT_seq ?_
          | refine XC_skip ?_
          | refine Y_res (r_move rfl) rfl ?_
          | refine Y_res (r_add64 rfl rfl (by omega)) rfl ?_
        refine X_call (g := 11) rfl rfl (fun w1 q3 => (open_any 9 (9 + size) 7 (pl2_in q3) hJ'.up.ok hJ'.up.dn hJ'.up.wf (by omega) hJ'.tn (by decide)).mono ?_)
        rintro e w2 ⟨gl2, a3, rfl, q4, hj3⟩
        refine ⟨_, rfl, _, wp2_out q4, ?_⟩
        clear q3 q4
        obtain ⟨hF2, hlist2, _⟩ := hJ'.opened a3 hj3
        obtain ⟨l2, hl2⟩ : ∃ l2, l2 = openP (nowAt q6) 9 (9 + size) 7 := ⟨_, rfl⟩
        rw [← hl2] at hF2 hlist2 ⊢
        clear hj3 hl2
        obtain ⟨hok2, _, _⟩ := hF2.ok (by omega)
        repeat first
          | refine XC_region ?_
          | refine X_nil ?_
          | refine XC_condF rfl ?_
          | refine XC_seq ?_
          | refine XT_seq ?_
          | refine XC_skip ?_
          | refine Y_res (r_move rfl) rfl ?_
          | refine Y_res (r_assign rfl) rfl ?_
          | refine Y_res (r_neq rfl rfl) rfl ?_
          | refine Y_res (r_eqlNil rfl rfl) rfl ?_
          | refine Y_on rfl rfl ?_
          | refine Y_res (r_len rfl) rfl ?_
          | refine Y_res (r_extract rfl rfl) rfl ?_
          | refine Y_res (r_pickF rfl rfl) rfl ?_
        refine Y_says (g := 25) rfl rfl (fun w1 hM => rneeds_any fb.length w1 (by omega)) ?_
        rcases hcase with ⟨rfl, hr1⟩ | ⟨rfl, hr1⟩
        · obtain ⟨hz1, rfl⟩ := hwh.1 rfl
          have hlist2 : l2.list = lsr rs' := hlist2
          rw [hr1] at hlist2
          have hrl : (lsr rs).length ≤ 100000 := by
            have := hF2.len.1
            have h2 : (lsr rs').length = (lsr rs).length + 1 := by rw [hr1]; simp
            rw [List.length_map] at h2
            omega
          have hele : (lsr rs ++ [fb]).length = (lsr rs).length + 1 := by simp
          repeat first
            | refine XC_region ?_
            | refine X_nil ?_
            | refine XC_seq ?_
            | refine XT_seq ?_
            | refine Y_res (r_move rfl) rfl ?_
            | refine Y_res (r_assign rfl) rfl ?_
            | refine Y_res (r_eql rfl rfl) rfl ?_
            | refine Y_on rfl rfl ?_
            | refine Y_res (r_pickT rfl rfl) rfl ?_
            | refine Y_splitT rfl rfl (by omega) ?_
          refine X_call (g := 14) rfl rfl (fun w1 q3 => (records_any (wl2_in q3) hok2 hF2.js (fun x hx => by
            rw [hlist2, List.mem_append, List.mem_singleton] at hx
            rcases hx with hx | rfl
            · exact Nat.le_trans (hxl x hx) (by decide)
            · omega)).mono ?_)
          rintro e w2 ⟨A5, c5, js5, rfl, hj5, q4⟩
          rw [hlist2] at q4 hj5 ⊢
          refine ⟨_, rfl, _, wl2_out2 q4, ?_⟩
          clear q3 q4
          repeat first
            | refine XC_region ?_
            | refine X_nil ?_
            | refine XC_seq ?_
            | refine XT_seq ?_
            | refine Y_res (r_move rfl) rfl ?_
            | refine Y_res (r_assign rfl) rfl ?_
            | refine Y_res (r_add64 rfl rfl (by omega)) rfl ?_
            | refine Y_res (r_eql rfl rfl) rfl ?_
            | refine Y_res (r_len rfl) rfl ?_
          refine XC_condP rfl (fun _ => ?_) (fun hx => absurd (by rw [hele]; omega) hx)
          repeat first
            | refine XC_region ?_
            | refine X_nil ?_
            | refine XC_condF rfl ?_
            | refine XC_seq ?_
            | refine XT_seq ?_
            | refine XC_skip ?_
            | refine Y_res (r_move rfl) rfl ?_
            | refine Y_res (r_notB rfl) rfl ?_
            | (refine X_buildE (E := 30) (s := 1) (by decide) rfl ?_; intro _ _)
          refine X_appendV (s := 1) (ys := js.map It.val) (l2 := (lsr rs).length) rfl rfl (fun w_ hM => rdv_sv hM.tail.tail.tail.tail.head) (fun u hu => by rw [List.mem_map] at hu; obtain ⟨it, _, rfl⟩ := hu; rfl) rfl (by decide) rfl rfl (by omega) (by omega) rfl ?_
          intro A3 c3
          repeat first
            | refine XC_region ?_
            | refine X_nil ?_
            | refine XC_seq ?_
            | refine XT_seq ?_
            | refine Y_res (r_move rfl) rfl ?_
            | refine Y_res (r_assign rfl) rfl ?_
            | (refine X_buildV rfl rfl (fun u hu => by simp at hu; rw [hu]; rfl) rfl (by simp) rfl ?_; intro _ _)
            | (refine X_appendV (s := 1) rfl rfl (fun w_ hM => rdv_blk (r := []) hM.head (List.append_nil _).symm rfl (Nat.le_refl 1) (by decide)) (fun u hu => by simp at hu; rw [hu]; rfl) rfl (by decide) rfl rfl (by omega) (by omega) rfl ?_; intro _ _)
          rename_i g9 hg9 A4 c4
          rw [show 0 + (lsr rs).length + 1 = (lsr rs ++ [fb]).length by rw [hele, Nat.zero_add]]
          have hjf : JOk .u8 (js ++ [itI .u8 Bf df fb]) (lsr rs ++ [fb]) := hjs.snoc Bf df fb
          have hrf : ∀ it ∈ js ++ [itI .u8 Bf df fb], it.rd w := fun it hit => by
            rw [List.mem_append, List.mem_singleton] at hit
            rcases hit with hit | rfl
            · exact hrd it hit
            · exact hfr.toV
          have hvf : [] ++ js.map It.val ++ [Value.slice Bf fb.length df] = (js ++ [itI .u8 Bf df fb]).map It.val := by rw [List.map_append]; rfl
          rw [hvf]
          refine Y_says (g := 20) rfl rfl (fun w1 hM => samell_any (lsr rs ++ [fb]) (lsr rs ++ [fb]) A5 A4 c5 c4 w1 (lls_js hM.tail.tail.head (fun it hit => bagN_rd hM.tail.tail.tail.head hit) hj5) (lls_js hM.tail.head (fun it hit => RdV.old (hrf it hit) hM old_false) hjf)) ?_
          rw [decide_eq_true (rfl : lsr rs ++ [fb] = lsr rs ++ [fb])]
          repeat first
            | refine XC_region ?_
            | refine X_nil ?_
            | refine XC_condF rfl ?_
            | refine XT_seq ?_
            | refine XT_block_normal ?_
            | refine XC_skip ?_
            | refine Y_res (r_move rfl) rfl ?_
            | refine Y_res (r_add64 rfl rfl (by omega)) rfl ?_
            | refine Y_res (r_notB rfl) rfl ?_
          rw [← hr1] at hjf
          refine XT_re (e := 6) (v' := .slice A4 (lsr rs').length c4) rfl (by rw [hr1]) ?_
          exact XT_round (i + 1, (pe, q6), (rs', at'), (A4, c4), js ++ [itI .u8 Bf df fb]) ⟨by dsimp only; omega, hJ', hjf, hrf, fun x hx => by
            rw [hr1, List.mem_append, List.mem_singleton] at hx
            rcases hx with hx | rfl
            · exact hxl x hx
            · exact hfl⟩ (by dsimp only; omega) ⟨rfl, rfl, rfl, rfl, rfl, rfl, trivial⟩ (fun _ h => by
              dsimp only
              rw [hr1]
              exact Hp.sublist h (.cons _ (.cons_cons _ (.cons _ (.cons _ (.cons _ (.cons _ (.cons _ (.cons _ (.cons _ (List.Sublist.refl _)))))))))))
        · have hlist2 : l2.list = lsr rs' := hlist2
          rw [hr1] at hlist2
          have hrl : (lsr rs).length ≤ 100000 := by
            have := hF2.len.1
            have h2 : (lsr rs').length = (lsr rs).length := by rw [hr1]
            rw [List.length_map] at h2
            omega
          by_cases hz1 : z = needs fb.length
          · have hal : al = false := by
              cases al with
              | false => rfl
              | true => cases hwh.2 ⟨hz1, rfl⟩
            subst hal
            repeat first
              | refine XC_region ?_
              | refine X_nil ?_
              | refine XC_seq ?_
              | refine XT_seq ?_
              | refine Y_res (r_move rfl) rfl ?_
              | refine Y_res (r_assign rfl) rfl ?_
              | refine Y_res (r_eql rfl rfl) rfl ?_
              | refine Y_on rfl rfl ?_
              | refine Y_res (r_pickT rfl rfl) rfl ?_
              | refine Y_splitT rfl rfl (by omega) ?_
            refine X_call (g := 14) rfl rfl (fun w1 q3 => (records_any (wl2_in q3) hok2 hF2.js (fun x hx => by
              rw [hlist2] at hx
              exact Nat.le_trans (hxl x hx) (by decide))).mono ?_)
            rintro e w2 ⟨A5, c5, js5, rfl, hj5, q4⟩
            rw [hlist2] at q4 hj5 ⊢
            refine ⟨_, rfl, _, wl2_out2 q4, ?_⟩
            clear q3 q4
            repeat first
              | refine XC_region ?_
              | refine X_nil ?_
              | refine XC_seq ?_
              | refine XT_seq ?_
              | refine Y_res (r_move rfl) rfl ?_
              | refine Y_res (r_assign rfl) rfl ?_
              | refine Y_res (r_add64 rfl rfl (by omega)) rfl ?_
              | refine Y_res (r_eql rfl rfl) rfl ?_
              | refine Y_res (r_len rfl) rfl ?_
            refine XC_condP rfl (fun hx => absurd hx (by omega)) (fun _ => ?_)
            repeat first
              | refine XC_region ?_
              | refine X_nil ?_
              | refine XC_condF rfl ?_
              | refine XC_seq ?_
              | refine XT_seq ?_
              | refine XC_skip ?_
              | refine Y_res (r_move rfl) rfl ?_
            refine Y_says (g := 20) rfl rfl (fun w1 hM => samell_any (lsr rs) (lsr rs) A5 As c5 cs w1 (lls_js hM.head (fun it hit => bagN_rd hM.tail.head hit) hj5) (lls_js hM.tail.tail.tail.head (fun it hit => RdV.old (hrd it hit) hM old_false) hjs)) ?_
            rw [decide_eq_true (rfl : lsr rs = lsr rs)]
            repeat first
              | refine XC_region ?_
              | refine X_nil ?_
              | refine XC_condF rfl ?_
              | refine XT_seq ?_
              | refine XT_block_normal ?_
              | refine XC_skip ?_
              | refine Y_res (r_move rfl) rfl ?_
              | refine Y_res (r_add64 rfl rfl (by omega)) rfl ?_
              | refine Y_res (r_notB rfl) rfl ?_
            refine XT_re (e := 6) (v' := .slice As (lsr rs').length cs) rfl (by rw [hr1]) ?_
            exact XT_round (i + 1, (pe, q6), (rs', at'), (As, cs), js) ⟨by dsimp only; omega, hJ', by dsimp only; rw [hr1]; exact hjs, hrd, fun x hx => by rw [hr1] at hx; exact hxl x hx⟩ (by dsimp only; omega) ⟨rfl, rfl, rfl, rfl, rfl, rfl, trivial⟩ (fun _ h => by
              dsimp only
              rw [hr1]
              exact Hp.sublist h (.cons _ (.cons _ (.cons _ (.cons_cons _ (.cons _ (.cons _ (.cons _ (List.Sublist.refl _)))))))))
          · repeat first
              | refine XC_region ?_
              | refine X_nil ?_
              | refine XC_seq ?_
              | refine XT_seq ?_
              | refine Y_res (r_move rfl) rfl ?_
              | refine Y_res (r_assign rfl) rfl ?_
              | refine Y_res (r_eql rfl rfl) rfl ?_
              | refine Y_off rfl rfl rfl ?_
              | refine Y_res (r_pickF rfl rfl) rfl ?_
              | refine Y_splitF rfl rfl (by omega) ?_
            refine X_call (g := 14) rfl rfl (fun w1 q3 => (records_any (wl2_in q3) hok2 hF2.js (fun x hx => by
              rw [hlist2] at hx
              exact Nat.le_trans (hxl x hx) (by decide))).mono ?_)
            rintro e w2 ⟨A5, c5, js5, rfl, hj5, q4⟩
            rw [hlist2] at q4 hj5 ⊢
            refine ⟨_, rfl, _, wl2_out2 q4, ?_⟩
            clear q3 q4
            repeat first
              | refine XC_region ?_
              | refine X_nil ?_
              | refine XC_seq ?_
              | refine XT_seq ?_
              | refine Y_res (r_move rfl) rfl ?_
              | refine Y_res (r_assign rfl) rfl ?_
              | refine Y_res (r_add64 rfl rfl (by omega)) rfl ?_
              | refine Y_res (r_eql rfl rfl) rfl ?_
              | refine Y_res (r_len rfl) rfl ?_
            refine XC_condP rfl (fun hx => absurd hx (by omega)) (fun _ => ?_)
            repeat first
              | refine XC_region ?_
              | refine X_nil ?_
              | refine XC_condF rfl ?_
              | refine XC_seq ?_
              | refine XT_seq ?_
              | refine XC_skip ?_
              | refine Y_res (r_move rfl) rfl ?_
            refine Y_says (g := 20) rfl rfl (fun w1 hM => samell_any (lsr rs) (lsr rs) A5 As c5 cs w1 (lls_js hM.head (fun it hit => bagN_rd hM.tail.head hit) hj5) (lls_js hM.tail.tail.tail.head (fun it hit => RdV.old (hrd it hit) hM old_false) hjs)) ?_
            rw [decide_eq_true (rfl : lsr rs = lsr rs)]
            repeat first
              | refine XC_region ?_
              | refine X_nil ?_
              | refine XC_condF rfl ?_
              | refine XT_seq ?_
              | refine XT_block_normal ?_
              | refine XC_skip ?_
              | refine Y_res (r_move rfl) rfl ?_
              | refine Y_res (r_add64 rfl rfl (by omega)) rfl ?_
              | refine Y_res (r_notB rfl) rfl ?_
            refine XT_re (e := 6) (v' := .slice As (lsr rs').length cs) rfl (by rw [hr1]) ?_
            exact XT_round (i + 1, (pe, q6), (rs', at'), (As, cs), js) ⟨by dsimp only; omega, hJ', by dsimp only; rw [hr1]; exact hjs, hrd, fun x hx => by rw [hr1] at hx; exact hxl x hx⟩ (by dsimp only; omega) ⟨rfl, rfl, rfl, rfl, rfl, rfl, trivial⟩ (fun _ h => by
              dsimp only
              rw [hr1]
              exact Hp.sublist h (.cons _ (.cons _ (.cons _ (.cons_cons _ (.cons _ (.cons _ (.cons _ (List.Sublist.refl _)))))))))
  · repeat first
      | refine XC_region ?_
      | refine X_nil ?_
      | refine XC_seq ?_
      | refine XT_seq ?_
      | refine XT_block_same rfl ?_
      | refine XT_then_exit ?_
      | refine XC_exit ?_
      | refine XC_ret ?_
      | refine Y_res (r_assign rfl) rfl ?_
    exact XT_says (.inl rfl) Try.results8 rfl rfl
end Go.Proofs.Ytgfpibojgkleiaa.NWl
