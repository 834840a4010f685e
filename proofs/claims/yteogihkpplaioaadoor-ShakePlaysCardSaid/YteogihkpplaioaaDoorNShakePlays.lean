/- ShakePlays, walked: true at every input. -/
import Derived.Test.YteogihkpplaioaaDoorNShake6
import Derived.Test.YteogihkpplaioaaDoorMXO
namespace Go.Proofs.YteogihkpplaioaaDoor.NShake
open Go Go.RowKit Go.Proofs.YteogihkpplaioaaDoor.MX Go.Proofs.YteogihkpplaioaaDoor.PShake Go.Proofs.YteogihkpplaioaaDoor.NSame
set_option linter.unusedVariables false
set_option linter.unusedSimpArgs false
def shOps := shSl Tryd.underlying27 (shRec Tryd.underlying31 (shCons (shInt .i64 Tryd.underlying3) (shCons (shInt .i64 Tryd.underlying3) (shCons (shSl Tryd.underlying22 (shInt .u8 Tryd.underlying5)) shNil))))
abbrev OpD := Int × Int × (Option Addr × Nat × List Int) × Unit
/-- An op's three cells. -/
def opCells (o : OpD) : List Value := [.int .i64 o.1, .int .i64 o.2.1, .slice o.2.2.1.1 o.2.2.1.2.2.length o.2.2.1.2.1]
theorem ops_at {w : World} {l : List OpD} {A : Option Addr} {c : Nat} (h : shOps.has w [.slice A l.length c] (A, c, l)) :
    (0 < l.length → A = some (adOf A)) ∧ l.length ≤ c ∧ ∀ j o, l[j]? = some o → (∀ i v, (opCells o)[i]? = some v → w.cell? (((adOf A).add (j * 3)).add i) = some v) ∧ (Lit.int .i64 o.1).wf = true ∧ (Lit.int .i64 o.2.1).wf = true ∧ Rds w o.2.2.1.1 o.2.2.1.2.1 .u8 o.2.2.1.2.2 ∧ o.2.2.1.2.1 ≤ 140737488355327 ∧ ∀ n ∈ o.2.2.1.2.2, (Lit.int .u8 n).wf = true := by
  obtain ⟨h1, h2, h3, h4, _, h5⟩ := h
  refine ⟨fun hp => ?_, h2, fun j o hj => ?_⟩
  · cases A with
    | none => have := h4 rfl; dsimp only at this h2; omega
    | some a => rfl
  obtain ⟨cs, g1, g2, g3⟩ := h5 j o hj
  have e3 : Tryd.prog.cellsOf 31 = 3 := by kernel_rfl
  rw [e3] at g1 g2
  match cs, g1 with
  | [c0, c1, c2], _ =>
    obtain ⟨_, k1, k2, k3, _⟩ := g3
    have q1 : [c0] = [Value.int .i64 o.1] := k1.1
    have q2 : [c1] = [Value.int .i64 o.2.1] := k2.1
    obtain ⟨r1, r2, r3⟩ := shSl_ints (by kernel_rfl) k3
    have q3 : [c2] = [Value.slice o.2.2.1.1 o.2.2.1.2.2.length o.2.2.1.2.1] := r1
    obtain rfl := (List.cons.inj q1).1
    obtain rfl := (List.cons.inj q2).1
    obtain rfl := (List.cons.inj q3).1
    exact ⟨fun i v hv => by rw [add_add _ _ _ (.inr trivial)]; exact g2 i v hv, k1.2, k2.2, r2, by
      have e1 : Tryd.prog.bytesOf 5 = 1 := by kernel_rfl
      have := Nat.le_trans k3.2.2.2.2.1 reach_bd
      rw [e1, Nat.mul_one] at this
      exact this, r3⟩
set_option maxHeartbeats 1000000 in
theorem write_no (g rate : Nat) (s b : List Int) (a : Nat) (A : Option Addr) (c : Nat) (w : World) (hb : (SpA g rate s a true).P w) (hs : s.length = 25) : Calls Tryd.prog 15 #[.pointer (some ⟨g, 0, none⟩), .slice A b.length c] w (Says w (.bool false)) := by
  refine calls_of_X (vs := [_, _]) (M := Hp w (fun _ => False) []) Tryd.func15 rfl Tryd.ntmps15 rfl (Hp.nil _ _) ?_
  have hb2 : w.cell? ⟨g, 27, none⟩ = some (.bool true) := by
    have hb : w.heap[g]? = some (.cells (s.map (Value.int .u64) ++ [Value.int .i64 rate, Value.int .i64 a, Value.bool true]).toArray 48 (0, 0)) := hb
    simp [World.cell?, hb, hs]
  repeat first
    | refine XC_region ?_
    | refine X_nil ?_
    | refine XC_condT rfl ?_
    | refine XC_seq ?_
    | refine XT_seq ?_
    | refine XT_then_ret ?_
    | refine XC_ret ?_
    | refine Y_res (r_move rfl) rfl ?_
    | refine Y_res (r_assign rfl) rfl ?_
    | refine Y_res (r_field' rfl) rfl ?_
    | refine Y_res (r_nilCheck rfl) rfl ?_
    | refine Y_res (r_loadO rfl hb2 (fun h => h)) rfl ?_
  exact XT_says (.inl rfl) Tryd.results15 rfl rfl
/-- Where a play stands. -/
structure At (rate : Nat) (inp out s : List Int) (a : Nat) (b : Bool) (q r : Nat) : Prop where
  wf : ∀ n ∈ inp, (Lit.int .u8 n).wf = true
  li : inp.length ≤ 2000
  lo : out.length ≤ 3000
  ph : Phase rate (sq rate inp) s a b q r
  eq : q * rate + r = out.length
  out : out = outs rate (sq rate inp) 0 out.length
  st : b = false → absb rate inp = (s, a)
set_option maxHeartbeats 4000000 in
set_option maxRecDepth 100000 in
theorem shakePlays_any (wide : Bool) (l : List OpD) (A : Option Addr) (c : Nat) (w : World) (h : shOps.has w [.slice A l.length c] (A, c, l)) (hK : KAt w) :
    Calls Tryd.prog 4 #[.bool wide, .slice A l.length c] w fun e w' => e = .returned (.bool true) ∧ Chg (fun _ => False) w w' := by
  obtain ⟨hA, hlc, hops⟩ := ops_at h
  have hops := Lib.hid hops
  clear h
  have hpos := hK.pos
  refine calls_of_X (Rr := Says w (.bool true)) (vs := [_, _]) (M := Hp w (fun _ => False) []) Tryd.func4 rfl Tryd.ntmps4 rfl (Hp.nil _ _) ?_
  repeat first
    | refine XC_region ?_
    | refine X_nil ?_
    | refine XC_condF rfl ?_
    | refine XC_seq ?_
    | refine XT_seq ?_
    | refine XC_skip ?_
    | refine Y_res (r_move rfl) rfl ?_
    | refine Y_res (r_assign rfl) rfl ?_
    | refine Y_res (r_notB rfl) rfl ?_
    | refine Y_says (g := 8) rfl rfl (fun w1 hM => anchor_any w1 (hK.keep hM.chg (fun h => h))) ?_
  refine XC_mid (ι := Nat × Nat) (fun p => (p.1 = 128 ∧ p.2 = 168) ∨ (p.1 = 256 ∧ p.2 = 136)) (fun p => [(1, .slice A l.length c), (5, .int .i64 p.1), (6, .int .i64 p.2)]) (fun _ => Hp w (fun _ => False) []) ?_ ?_
  · cases wide
    · repeat first
        | refine XC_condF rfl ?_
        | refine XC_skip ?_
      exact XT_mid (128, 168) (.inl ⟨rfl, rfl⟩) ⟨rfl, rfl, rfl, trivial⟩ (fun _ h => h)
    · repeat first
        | refine XC_region ?_
        | refine X_nil ?_
        | refine XC_condT rfl ?_
        | refine Y_res (r_assign rfl) rfl ?_
      exact XT_mid (256, 136) (.inr ⟨rfl, rfl⟩) ⟨rfl, rfl, rfl, trivial⟩ (fun _ h => h)
  rintro ⟨size, rate⟩ hsz
  dsimp only at hsz ⊢
  have hrate : Rate rate := by rcases hsz with ⟨_, h⟩ | ⟨_, h⟩; exact .inl h; exact .inr h
  obtain ⟨hr0, hr2⟩ := hrate.bd
  repeat first
    | refine XC_region ?_
    | refine XC_seq ?_
    | refine Y_res (r_move rfl) rfl ?_
  refine X_call (g := 14) rfl rfl (fun w1 h1 => (new_any _ w1 (by omega)).mono ?_)
  rintro e w2 ⟨g, rfl, hg, h2, hc2⟩
  rw [show (if (size : Int) = 128 then 168 else 136) = rate by rcases hsz with ⟨rfl, rfl⟩ | ⟨rfl, rfl⟩ <;> rfl] at h2
  have hgw : w.heap.size ≤ g := Nat.le_trans h1.chg.size hg
  refine ⟨_, rfl, _, h1.add hc2 h2 (fun k hk => by rw [show k = g from hk]; exact hg), ?_⟩
  clear h1 h2 hc2
  repeat first
    | refine XC_region ?_
    | refine X_nil ?_
    | refine XC_condF rfl ?_
    | refine XC_seq ?_
    | refine XT_seq ?_
    | refine XC_skip ?_
    | refine Y_res (r_move rfl) rfl ?_
    | refine Y_res (r_assign rfl) rfl ?_
    | refine Y_res (r_gtr rfl rfl) rfl ?_
    | refine Y_res (r_eqlNil rfl rfl) rfl ?_
    | refine Y_res (r_len rfl) rfl ?_
  refine XC_condP rfl (fun _ => ?_) (fun hfew => ?_)
  · repeat first
      | refine XC_region ?_
      | refine X_nil ?_
      | refine XC_seq ?_
      | refine XT_seq ?_
      | refine XT_then_ret ?_
      | refine XC_ret ?_
      | refine Y_res (r_assign rfl) rfl ?_
    exact XT_says (.inl rfl) Tryd.results4 rfl rfl
  repeat first
    | refine XC_region ?_
    | refine X_nil ?_
    | refine XC_seq ?_
    | refine XT_seq ?_
    | refine XC_block ?_
    | refine XC_skip ?_
    | refine Y_res (r_move rfl) rfl ?_
    | refine Y_res (r_assign rfl) rfl ?_
    | refine Y_res (r_len rfl) rfl ?_
  refine XC_mem (M' := Hp w (fun _ => False) [Ch.sl none 0 5 .u8 [], Ch.sl none 0 5 .u8 [], SpA g rate (absb rate []).1 (absb rate []).2 false]) (fun _ h => h.nilS.nilS) ?_
  refine XC_loop (ι := Nat × (List Int × List Int × List Int × Nat × Bool × Nat × Nat) × (Option Addr × Nat) × Option Addr × Nat) (fun p => p.1 ≤ l.length ∧ At rate p.2.1.1 p.2.1.2.1 p.2.1.2.2.1 p.2.1.2.2.2.1 p.2.1.2.2.2.2.1 p.2.1.2.2.2.2.2.1 p.2.1.2.2.2.2.2.2)
    (fun p => [(6, .int .i64 rate), (7, .pointer (some ⟨g, 0, none⟩)), (8, .slice p.2.2.1.1 p.2.1.1.length p.2.2.1.2), (9, .slice p.2.2.2.1 p.2.1.2.1.length p.2.2.2.2), (10, .bool p.2.1.2.2.2.2.1), (24, .slice A l.length c), (25, .int .i64 l.length), (26, .int .i64 p.1)])
    (fun p => Hp w (fun _ => False) [Ch.sl p.2.2.1.1 p.2.2.1.2 5 .u8 p.2.1.1, Ch.sl p.2.2.2.1 p.2.2.2.2 5 .u8 p.2.1.2.1, SpA g rate p.2.1.2.2.1 p.2.1.2.2.2.1 p.2.1.2.2.2.2.1]) (fun p => l.length - p.1)
    (0, ([], [], (absb rate []).1, (absb rate []).2, false, 0, 0), (none, 0), none, 0) ⟨Nat.zero_le _, ⟨(by simp), (by simp), (by simp), phase_0 hrate [], (by simp), rfl, fun _ => rfl⟩⟩ ⟨rfl, rfl, rfl, rfl, rfl, rfl, rfl, rfl, trivial⟩ (fun _ h => h) ?_
  rintro ⟨i, ⟨inp, out, s, a, b, q, r⟩, ⟨Ai, ci⟩, Ao, co⟩ ⟨hi, hat⟩
  dsimp only at hi hat ⊢
  obtain ⟨hwi, hli, hlo, hph, hqr, hout, hst⟩ := hat
  repeat first
    | refine XC_region ?_
    | refine X_nil ?_
    | refine XC_seq ?_
    | refine XT_seq ?_
    | refine Y_res (r_lss rfl rfl) rfl ?_
  refine XC_condP rfl (fun hlt => ?_) (fun hge => ?_)
  · have hi2 : i < l.length := by omega
    have hA1 := hA (by omega)
    obtain ⟨o, ho⟩ : ∃ o, l[i]? = some o := ⟨l[i], List.getElem?_eq_getElem hi2⟩
    obtain ⟨hcell, hwk, hwn, hrd, hdm, hwd⟩ := hops.out i o ho
    obtain ⟨kind, N, ⟨DA, dc, data⟩, u⟩ := o
    unfold opCells at hcell
    dsimp only at hcell hwk hwn hrd hdm hwd
    have hN := wf64 hwn
    have hdl := hrd.le
    have hdc := hrd.cap
    repeat first
      | refine XC_region ?_
      | refine XC_seq ?_
      | refine XT_seq ?_
      | refine XC_block ?_
      | refine XC_skip ?_
      | refine Y_res (r_indexRs rfl rfl hA1 hi2) rfl ?_
      | refine Y_res (r_loadA (vs := [.int .i64 kind, .int .i64 N, .slice DA data.length dc]) rfl rfl (fun w1 hM j v hv => hM.old (hcell j v hv) (fun h => h))) rfl ?_
      | (refine X_allocB (zs := [.int .i64 0, .int .i64 0, .slice none 0 0]) rfl rfl ?_; intro _ _)
    rename_i go hgo
    refine X_storeW (vs := [.int .i64 kind, .int .i64 N, .slice DA data.length dc]) rfl rfl rfl (by rfl) (by simp [Value.oneCell']) ?_
    repeat first
      | refine XC_region ?_
      | refine X_nil ?_
      | refine XC_seq ?_
      | refine XT_seq ?_
      | refine XC_block ?_
      | refine Y_res (r_assign rfl) rfl ?_
      | refine Y_res (r_eql rfl rfl) rfl ?_
      | refine Y_res (r_field' rfl) rfl ?_
      | refine Y_res (r_loadB rfl rfl) rfl ?_
    refine XC_condP rfl (fun hk1 => ?_) (fun hk1 => ?_)
    · repeat first
        | refine XC_region ?_
        | refine X_nil ?_
        | refine XC_seq ?_
        | refine XT_seq ?_
        | refine Y_res (r_move rfl) rfl ?_
        | refine Y_res (r_add64 rfl rfl (by omega)) rfl ?_
        | refine Y_res (r_gtr rfl rfl) rfl ?_
        | refine Y_res (r_len rfl) rfl ?_
        | refine Y_res (r_field' rfl) rfl ?_
        | refine Y_res (r_loadB rfl rfl) rfl ?_
      refine XC_condP rfl (fun _ => ?_) (fun hbig => ?_)
      · repeat first
          | refine XC_region ?_
          | refine X_nil ?_
          | refine XC_seq ?_
          | refine XT_seq ?_
          | refine XT_block_ret ?_
          | refine XT_then_ret ?_
          | refine XC_ret ?_
          | refine Y_res (r_assign rfl) rfl ?_
        exact XT_says (.inl rfl) Tryd.results4 rfl rfl
      cases b with
      | true =>
        have hsl : s.length = 25 := by
          unfold Phase at hph
          rw [if_pos rfl] at hph
          rw [hph.1]
          exact (permN_lns hph.2.2.2 q).1
        repeat first
          | refine XC_region ?_
          | refine X_nil ?_
          | refine XC_condF rfl ?_
          | refine XC_seq ?_
          | refine XT_seq ?_
          | refine XT_block_normal ?_
          | refine XC_skip ?_
          | refine Y_res (r_move rfl) rfl ?_
          | refine Y_res (r_add64 rfl rfl (by omega)) rfl ?_
          | refine Y_res (r_eqlB rfl rfl) rfl ?_
          | refine Y_res (r_notB rfl) rfl ?_
          | refine Y_res (r_field' rfl) rfl ?_
          | refine Y_res (r_loadB rfl rfl) rfl ?_
          | refine Y_says (g := 15) rfl rfl (fun w1 hM => write_no g rate s data a DA dc w1 hM.tail.tail.tail.head hsl) ?_
        exact XT_round (i + 1, (inp, out, s, a, true, q, r), (Ai, ci), Ao, co) ⟨by dsimp only; omega, ⟨hwi, hli, hlo, hph, hqr, hout, hst⟩⟩ (by dsimp only; omega) ⟨rfl, rfl, rfl, rfl, rfl, rfl, rfl, rfl, trivial⟩ (fun _ h => h.tail)
      | false =>
        have hst2 := hst rfl
        repeat first
          | refine XC_region ?_
          | refine XC_seq ?_
          | refine XT_seq ?_
          | refine XC_skip ?_
          | refine Y_res (r_move rfl) rfl ?_
          | refine Y_res (r_field' rfl) rfl ?_
          | refine Y_res (r_loadB rfl rfl) rfl ?_
        refine X_call (g := 15) rfl rfl (fun w1 h1 => (write_any g rate inp data DA dc w1 (by rw [spW_eq, hst2]; exact h1.tail.tail.tail.head) (hrd.old h1 old_false) hwd (fun hd ad e e2 => absurd (rds_lt hrd hd e) (by rw [e2]; omega)) hrate (hK.keep h1.chg (fun h => h)) (by omega)).mono ?_)
        rintro e w2 ⟨rfl, h2, hc2⟩
        have hrot : ∀ {c1 c2 c3 c4 : Ch} {w5 : World}, Hp w (fun _ => False) [c1, c2, c3, c4] w5 → Hp w (fun _ => False) [c4, c1, c2, c3] w5 := fun h => h.of_perm (List.perm_append_comm (l₁ := [_, _, _]) (l₂ := [_]))
        refine ⟨_, rfl, _, (hrot h1).turn hc2 h2 (fun k hk => .inl hk), ?_⟩
        clear h1 h2 hc2
        unfold Phase at hph
        rw [if_neg (by decide)] at hph
        obtain ⟨hf0, rfl, rfl, hls, hla⟩ := hph
        have hol : out = [] := List.eq_nil_of_length_eq_zero (by omega)
        have hwi2 : ∀ n ∈ inp ++ data, (Lit.int .u8 n).wf = true := fun n hn => by
          rcases List.mem_append.1 hn with h | h
          · exact hwi n h
          · exact hwd n h
        have hli2 : (inp ++ data).length ≤ 2000 := by rw [List.length_append]; omega
        repeat first
          | refine XC_region ?_
          | refine X_nil ?_
          | refine XC_condT rfl ?_
          | refine XC_condF rfl ?_
          | refine XC_seq ?_
          | refine XT_seq ?_
          | refine XT_block_normal ?_
          | refine XC_skip ?_
          | refine Y_res (r_move rfl) rfl ?_
          | refine Y_res (r_assign rfl) rfl ?_
          | refine Y_res (r_add64 rfl rfl (by omega)) rfl ?_
          | refine Y_res (r_eqlB rfl rfl) rfl ?_
          | refine Y_res (r_notB rfl) rfl ?_
          | refine Y_res (r_field' rfl) rfl ?_
          | refine Y_res (r_loadB rfl rfl) rfl ?_
          | (refine X_append rfl rfl (fun w_ hM => (by first | exact Rds.old (by assumption) hM old_false | exact rds_sl (PkS.has inferInstance hM))) rfl rfl rfl (by omega) (by omega) rfl ?_; intro _ _)
        rename_i A8 c8
        exact XT_round (i + 1, (inp ++ data, [], (absb rate (inp ++ data)).1, (absb rate (inp ++ data)).2, false, 0, 0), (A8, c8), Ao, co) ⟨by dsimp only; omega, ⟨hwi2, hli2, by simp, phase_0 hrate _, by simp, rfl, fun _ => rfl⟩⟩ (by dsimp only; omega) ⟨rfl, rfl, rfl, by rw [hol]; rfl, rfl, rfl, rfl, rfl, trivial⟩ (fun _ h => by rw [hol] at h; rw [spW_eq] at h; exact (h.swap.tail).of_perm (List.perm_append_comm (l₁ := [_]) (l₂ := [_, _])))
    · repeat first
        | refine XC_region ?_
        | refine X_nil ?_
        | refine XC_seq ?_
        | refine XT_seq ?_
        | refine Y_res (r_assign rfl) rfl ?_
        | refine Y_res (r_eql rfl rfl) rfl ?_
      refine XC_condP rfl (fun hk2 => ?_) (fun hk2 => ?_)
      · by_cases hN2 : 0 ≤ N ∧ N ≤ 65536
        · obtain ⟨n, rfl⟩ : ∃ n : Nat, N = n := ⟨N.toNat, by omega⟩
          repeat first
            | refine XC_region ?_
            | refine XC_seq ?_
            | refine Y_res (r_move rfl) rfl ?_
            | refine Y_res (r_field' rfl) rfl ?_
            | refine Y_res (r_loadB rfl rfl) rfl ?_
            | refine Y_res (r_min2 rfl rfl) rfl ?_
          refine Y_re (e := 58) (v' := .int .i64 (n : Int)) rfl (by rw [if_neg (by omega)]) ?_
          have hrot : ∀ {c1 c2 c3 c4 : Ch} {w5 : World}, Hp w (fun _ => False) [c1, c2, c3, c4] w5 → Hp w (fun _ => False) [c4, c1, c2, c3] w5 := fun h => h.of_perm (List.perm_append_comm (l₁ := [_, _, _]) (l₂ := [_]))
          refine X_call (g := 16) rfl rfl (fun w1 h1 => (read_any g rate (sq rate inp) s a q r n b w1 h1.tail.tail.tail.head hph (by omega) hrate (hK.keep h1.chg (fun h => h)) (by omega)).mono ?_)
          rintro e w2 ⟨A3, c3, q3, r3, rfl, h2, hqr3, hr3, hlf⟩
          have h3 := (hrot h1).frame h2
          rw [hqr] at h3 hqr3
          refine ⟨_, rfl, _, h3, ?_⟩
          clear h1 h2 h3
          simp only [List.cons_append, List.nil_append]
          have hl1 := outs_len rate (sq rate inp) out.length n
          obtain ⟨y, hy⟩ : ∃ y, y = outs rate (sq rate inp) out.length n := ⟨_, rfl⟩
          rw [← hy] at hl1 ⊢
          refine Y_re (e := 59) (v' := .slice A3 y.length c3) rfl (by rw [hl1]) ?_
          repeat first
            | refine XC_region ?_
            | refine X_nil ?_
            | refine XC_seq ?_
            | refine XT_seq ?_
            | refine Y_res (r_move rfl) rfl ?_
            | refine Y_res (r_assign rfl) rfl ?_
            | refine Y_res (r_lss rfl rfl) rfl ?_
            | refine Y_res (r_gtr rfl rfl) rfl ?_
            | refine Y_on rfl rfl ?_
            | refine Y_res (r_field' rfl) rfl ?_
            | refine Y_res (r_loadB rfl rfl) rfl ?_
            | refine Y_res (r_pickF rfl rfl) rfl ?_
            | refine Y_splitF rfl rfl (by omega) ?_
          refine XC_condP rfl (fun h => absurd h (by omega)) (fun _ => ?_)
          repeat first
            | refine XC_region ?_
            | refine X_nil ?_
            | refine XC_seq ?_
            | refine XT_seq ?_
            | refine XC_skip ?_
            | refine Y_res (r_move rfl) rfl ?_
            | refine Y_res (r_add64 rfl rfl (by omega)) rfl ?_
            | refine Y_res (r_gtr rfl rfl) rfl ?_
            | refine Y_res (r_len rfl) rfl ?_
            | refine Y_res (r_field' rfl) rfl ?_
            | refine Y_res (r_loadB rfl rfl) rfl ?_
          refine XC_condP rfl (fun _ => ?_) (fun hbig => ?_)
          · repeat first
              | refine XC_region ?_
              | refine X_nil ?_
              | refine XC_seq ?_
              | refine XT_seq ?_
              | refine XT_block_ret ?_
              | refine XT_then_ret ?_
              | refine XC_ret ?_
              | refine Y_res (r_assign rfl) rfl ?_
            exact XT_says (.inl rfl) Tryd.results4 rfl rfl
          repeat first
            | refine XC_region ?_
            | refine X_nil ?_
            | refine XC_seq ?_
            | refine XT_seq ?_
            | refine XC_skip ?_
            | refine Y_res (r_move rfl) rfl ?_
            | refine Y_res (r_assign rfl) rfl ?_
            | refine Y_res (r_neq rfl rfl) rfl ?_
            | refine Y_res (r_len rfl) rfl ?_
            | refine Y_res (r_field' rfl) rfl ?_
            | refine Y_res (r_loadB rfl rfl) rfl ?_
          refine XC_condP rfl (fun h => absurd h (by omega)) (fun _ => ?_)
          repeat first
            | refine XC_region ?_
            | refine X_nil ?_
            | refine XT_seq ?_
            | refine XT_block_normal ?_
            | refine XC_skip ?_
            | refine Y_res (r_move rfl) rfl ?_
            | refine Y_res (r_assign rfl) rfl ?_
            | refine Y_res (r_add64 rfl rfl (by omega)) rfl ?_
            | (refine X_append rfl rfl (fun w_ hM => (by first | exact Rds.old (by assumption) hM old_false | exact rds_sl (PkS.has inferInstance hM))) rfl rfl rfl (by omega) (by omega) rfl ?_; intro _ _)
          rename_i A9 c9
          have hol2 : (out ++ y).length = out.length + n := by rw [List.length_append, hl1]
          have hout2 : out ++ y = outs rate (sq rate inp) 0 (out ++ y).length := by
            rw [hol2, hy]
            have e : ∀ a b : Nat, outs rate (sq rate inp) 0 (a + b) = outs rate (sq rate inp) 0 a ++ outs rate (sq rate inp) a b := fun a b => by
              unfold outs
              rw [List.range_add, List.map_append, List.map_map]
              congr 1
              refine List.map_congr_left fun i _ => ?_
              show str rate (sq rate inp) (0 + (a + i)) = str rate (sq rate inp) (a + i)
              rw [Nat.zero_add]
            rw [e, ← hout]
          exact XT_round (i + 1, (inp, out ++ y, permN (sq rate inp) q3, r3, true, q3, r3), (Ai, ci), A9, c9) ⟨by dsimp only; omega, ⟨hwi, hli, by rw [hol2]; omega, by unfold Phase; rw [if_pos rfl]; exact ⟨rfl, rfl, hr3, hlf⟩, by rw [hol2]; omega, hout2, fun h => by cases h⟩⟩ (by dsimp only; omega) ⟨rfl, rfl, rfl, rfl, rfl, rfl, rfl, rfl, trivial⟩
            (fun _ h => (h.tail.swap.tail).of_perm (List.perm_append_comm (l₁ := [_]) (l₂ := [_, _])))
        · repeat first
            | refine XC_region ?_
            | refine X_nil ?_
            | refine XC_seq ?_
            | refine XT_seq ?_
            | refine Y_res (r_move rfl) rfl ?_
            | refine Y_res (r_assign rfl) rfl ?_
            | refine Y_res (r_lss rfl rfl) rfl ?_
            | refine Y_res (r_field' rfl) rfl ?_
            | refine Y_res (r_loadB rfl rfl) rfl ?_
            | refine Y_res (r_min2 rfl rfl) rfl ?_
            | refine Y_says (g := 16) rfl rfl (fun w1 hM => read_bad g _ w1 (by split <;> omega)) ?_
          by_cases h0 : N < 0
          · repeat first
              | refine XC_region ?_
              | refine X_nil ?_
              | refine XC_condT rfl ?_
              | refine XC_condF rfl ?_
              | refine XC_seq ?_
              | refine XT_seq ?_
              | refine XT_block_same rfl ?_
              | refine XT_block_other rfl ?_
              | refine XT_then_exit ?_
              | refine XC_skip ?_
              | refine XC_exit ?_
              | refine Y_res (r_move rfl) rfl ?_
              | refine Y_res (r_add64 rfl rfl (by omega)) rfl ?_
              | refine Y_res (r_neq rfl rfl) rfl ?_
              | refine Y_off rfl rfl rfl ?_
              | refine Y_res (r_len rfl) rfl ?_
              | refine Y_res (r_pickT rfl rfl) rfl ?_
              | refine Y_splitT rfl rfl h0 ?_
            exact XT_round (i + 1, (inp, out, s, a, b, q, r), (Ai, ci), Ao, co) ⟨by dsimp only; omega, ⟨hwi, hli, hlo, hph, hqr, hout, hst⟩⟩ (by dsimp only; omega) ⟨rfl, rfl, rfl, rfl, rfl, rfl, rfl, rfl, trivial⟩ (fun _ h => h.tail)
          · repeat first
              | refine X_nil ?_
              | refine XT_seq ?_
              | refine Y_res (r_gtr rfl rfl) rfl ?_
              | refine Y_on rfl rfl ?_
              | refine Y_res (r_field' rfl) rfl ?_
              | refine Y_res (r_loadB rfl rfl) rfl ?_
              | refine Y_res (r_pickF rfl rfl) rfl ?_
              | refine Y_splitF rfl rfl h0 ?_
            refine XC_condP rfl (fun _ => ?_) (fun h => absurd (show (65536 : Int) < N by omega) h)
            repeat first
              | refine XC_region ?_
              | refine X_nil ?_
              | refine XC_condF rfl ?_
              | refine XC_seq ?_
              | refine XT_seq ?_
              | refine XT_block_same rfl ?_
              | refine XT_block_other rfl ?_
              | refine XT_then_exit ?_
              | refine XC_skip ?_
              | refine XC_exit ?_
              | refine Y_res (r_move rfl) rfl ?_
              | refine Y_res (r_add64 rfl rfl (by omega)) rfl ?_
              | refine Y_res (r_neq rfl rfl) rfl ?_
              | refine Y_res (r_len rfl) rfl ?_
            exact XT_round (i + 1, (inp, out, s, a, b, q, r), (Ai, ci), Ao, co) ⟨by dsimp only; omega, ⟨hwi, hli, hlo, hph, hqr, hout, hst⟩⟩ (by dsimp only; omega) ⟨rfl, rfl, rfl, rfl, rfl, rfl, rfl, rfl, trivial⟩ (fun _ h => h.tail)
      · repeat first
          | refine XC_region ?_
          | refine X_nil ?_
          | refine XT_seq ?_
          | refine XT_block_normal ?_
          | refine XC_skip ?_
          | refine Y_res (r_move rfl) rfl ?_
          | refine Y_res (r_add64 rfl rfl (by omega)) rfl ?_
        exact XT_round (i + 1, (inp, out, s, a, b, q, r), (Ai, ci), Ao, co) ⟨by dsimp only; omega, ⟨hwi, hli, hlo, hph, hqr, hout, hst⟩⟩ (by dsimp only; omega) ⟨rfl, rfl, rfl, rfl, rfl, rfl, rfl, rfl, trivial⟩ (fun _ h => h.tail)
  · repeat first
      | refine XC_region ?_
      | refine XC_seq ?_
      | refine XT_seq ?_
      | refine XT_block_same rfl ?_
      | refine XT_then_exit ?_
      | refine XC_exit ?_
      | refine Y_res (r_move rfl) rfl ?_
      | refine Y_res (r_len rfl) rfl ?_
    refine X_tells (g := 17) rfl rfl (fun w1 hM => rsum_any rate inp _ _ out.length w1 (by first | exact Rds.old (by assumption) hM old_false | exact rds_sl (PkS.has inferInstance hM)) hwi (by omega) (by omega) hrate) ?_
    intro A1 c1 x1 h1
    have e : out = x1 := by rw [h1]; exact hout
    repeat first
      | refine X_nil ?_
      | refine XT_seq ?_
      | refine XC_ret ?_
      | refine Y_res (r_assign rfl) rfl ?_
      | refine Y_says (g := 11) rfl rfl (fun w1 hM => same_any _ _ _ _ _ _ w1 (by first | exact Rds.old (by assumption) hM old_false | exact rds_sl (PkS.has inferInstance hM)) (by first | exact Rds.old (by assumption) hM old_false | exact rds_sl (PkS.has inferInstance hM))) ?_
    exact XT_says (.inl rfl) Tryd.results4 rfl (by rw [decide_eq_true e])
end Go.Proofs.YteogihkpplaioaaDoor.NShake
