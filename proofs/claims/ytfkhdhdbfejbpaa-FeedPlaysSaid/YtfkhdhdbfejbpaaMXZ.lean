/- Lists of lists; calls that tell what was there or what is new; bags of new rows; a call that has several parts; an append of so many noughts. No program in sight. -/
import Derived.Test.YtfkhdhdbfejbpaaMXY
import Derived.Lib.AppendZeros
namespace Go.Proofs.Ytfkhdhdbfejbpaa.MX
open Go Go.RowKit
set_option linter.unusedVariables false
set_option linter.unusedSimpArgs false
set_option linter.unusedVariables false
/-- Lists of whole numbers that are read. -/
structure LLs (k : IntKind) (w : World) (A : Option Addr) (c : Nat) (L : List (List Int)) : Prop where
  le : L.length ≤ c
  cap : c ≤ 9223372036854775807
  nil : A = none → c = 0
  at_ : ∀ (i : Nat) (l : List Int), L[i]? = some l → ∃ B d, w.cell? ((adOf A).add i) = some (.slice B l.length d) ∧ Rds w B d k l
section
variable {k : IntKind} {w w0 w' : World} {A : Option Addr} {c : Nat} {L : List (List Int)}
theorem LLs.some (h : LLs k w A c L) (hc : 0 < c) : A = Option.some (adOf A) := by
  cases A with
  | none => have := h.nil rfl; omega
  | some a => rfl
theorem LLs.keep {S : Nat → Prop} (h : LLs k w A c L) (hc : Chg S w w') (hs : ∀ b, ¬ S b) : LLs k w' A c L :=
  ⟨h.le, h.cap, h.nil, fun i l hi => by
    obtain ⟨B, d, h1, h2⟩ := h.at_ i l hi
    exact ⟨B, d, cell_chg h1 hc (hs _), h2.keep hc (fun _ _ => hs _)⟩⟩
theorem LLs.none_ (k : IntKind) (w : World) : LLs k w none 0 [] := ⟨Nat.le_refl _, by decide, fun _ => rfl, fun i l h => by simp at h⟩
theorem LLs.take (h : LLs k w A c L) (n : Nat) : LLs k w A c (L.take n) := ⟨by have := h.le; simp; omega, h.cap, h.nil, fun i l hi => by
  rcases Nat.lt_or_ge i n with hn | hn
  · rw [List.getElem?_take_of_lt hn] at hi
    exact h.at_ i l hi
  · rw [List.getElem?_take] at hi
    rw [if_neg (by omega)] at hi
    cases hi⟩
theorem LLs.drop (h : LLs k w A c L) (n : Nat) (hn : n ≤ L.length) : LLs k w (cutA A n c 1) (c - n) (L.drop n) := ⟨by have := h.le; simp; omega, by have := h.cap; omega, fun e => by
    unfold cutA at e
    split at e
    · omega
    · cases A with
      | none => have := h.nil rfl; omega
      | some a => simp at e, fun i l hi => by
    rw [List.getElem?_drop] at hi
    have hlt := (List.getElem?_eq_some_iff.1 hi).1
    have hle := h.le
    have hA := h.some (by omega)
    have e2 : adOf (cutA A n c 1) = (adOf A).add n := by
      unfold cutA
      rw [if_neg (by omega), hA]
      simp [adOf]
    rw [e2, add_add _ _ _ (.inr trivial)]
    exact h.at_ (n + i) l hi⟩
theorem lls_blk {g : Nat} {T : TypeId} {vs : List Value} (h : (Ch.blk g vs T).P w) (hl : L.length ≤ c) (hc : c ≤ 9223372036854775807) (hat : ∀ (i : Nat) (l : List Int), L[i]? = some l → ∃ B d, vs[i]? = some (.slice B l.length d) ∧ Rds w B d k l) : LLs k w (some ⟨g, 0, none⟩) c L :=
  ⟨hl, hc, fun e => (by cases e), fun i l hi => by
    obtain ⟨B, d, h1, h2⟩ := hat i l hi
    refine ⟨B, d, ?_, h2⟩
    have h : w.heap[g]? = some (.cells vs.toArray T (0, 0)) := h
    show w.cell? ((⟨g, 0, none⟩ : Addr).add i) = _
    rw [add_mk, Nat.zero_add]
    simp [World.cell?, h, h1]⟩
theorem addr_add0 (a : Addr) : a.add 0 = a := by unfold Addr.add; split <;> simp_all
theorem cutA0 (A : Option Addr) (c s : Nat) : cutA A 0 c s = A := by
  unfold cutA
  split
  · rfl
  · cases A with
    | none => rfl
    | some a => simp [addr_add0]
theorem RdV.toS {xs : List Int} (h : RdV w A c 1 xs.length (xs.map (Value.int k))) : Rds w A c k xs :=
  ⟨h.le, h.cap, h.nil, fun j hj => h.at_ j _ (map_getD hj)⟩
theorem Tells.re {P : Program} {e : TypeId} {g : Nat} {args : Array Value} {xs ys : List Int} (h : Calls P g args w (Tells e k w xs)) (he : xs = ys) : Calls P g args w (Tells e k w ys) := he ▸ h
/-- A call that tells a list that was there, or a new one. -/
def TellsB (k : IntKind) (w0 w : World) (xs : List Int) : Ending → World → Prop := fun e w' => ∃ B d, e = .returned (.slice B xs.length d) ∧ (Rds w0 B d k xs ∨ ((∀ a, B = Option.some a → w.heap.size ≤ a.block) ∧ Rds w' B d k xs)) ∧ Chg (fun _ => False) w w'
/-- The item of a list of whole numbers. -/
def itI (k : IntKind) (B : Option Addr) (d : Nat) (xs : List Int) : It := ⟨B, d, xs.length, xs.map (Value.int k)⟩
theorem TellsB.rds {xs : List Int} {B : Option Addr} {d : Nat} (h : Rds w0 B d k xs ∨ ((∀ a, B = Option.some a → w.heap.size ≤ a.block) ∧ Rds w' B d k xs)) (h0 : Chg (fun _ => False) w0 w) (h1 : Chg (fun _ => False) w w') : Rds w' B d k xs := by
  rcases h with h | h
  · exact (h.keep h0 (fun _ _ h => h)).keep h1 (fun _ _ h => h)
  · exact h.2
theorem bag_one {cs : List Ch} {xs : List Int} {B : Option Addr} {d : Nat} (hM : Hp w0 (fun _ => False) cs w) (h : Rds w0 B d k xs ∨ ((∀ a, B = Option.some a → w.heap.size ≤ a.block) ∧ Rds w' B d k xs)) (h1 : Chg (fun _ => False) w w') :
    Hp w0 (fun _ => False) (Ch.bag w0 [itI k B d xs] :: cs) w' := by
  refine hM.add h1 (fun it hit => ?_) (fun j hj => ?_)
  · rw [List.mem_singleton.1 hit]
    rcases h with h | ⟨h, h2⟩
    · exact .inl h.toV
    · exact .inr ⟨fun a ha => Nat.le_trans hM.chg.size (h a ha), h2.toV⟩
  · obtain ⟨hj0, it, hit, hv, a, ha, hb⟩ := hj
    rw [List.mem_singleton.1 hit] at ha hv
    rcases h with h | ⟨h, h2⟩
    · obtain ⟨a', ha', hlt⟩ := rdv_block h.toV hv
      have ha : B = Option.some a := ha
      rw [ha] at ha'
      injection ha' with ha'
      subst ha'
      omega
    · rw [← hb]
      exact h a ha
theorem rds_bag {xs : List Int} {B : Option Addr} {d : Nat} {its : List It} (h : (Ch.bag w0 its).P w) (hc : Chg (fun _ => False) w0 w) (hit : itI k B d xs ∈ its) : Rds w B d k xs := RdV.toS (bag_rd h hc hit)
end
section
variable {P : Program} {n : Nat} {ops : Array Oper} {md : Md} {Q : Exit → Act → World → Prop} {R : Regs} {rest : List Oper} {ty E T T' : TypeId} {w0 : World} {S : Nat → Prop} {cs : List Ch} {d g : Nat} {pos : String} {af : Array Edge} {tys : Array TypeId} {k k' : IntKind} {v : Value} {x y : Operand} {A : Option Addr} {len cap i : Nat}
theorem X_tellsB [hf : HasFn P g] {us : List Operand} {vs : List Value} (ha : R.evl us = some vs) (hd : Nat.blt d n = true) {xs : List Int}
    (h : ∀ w, Hp w0 (fun _ => False) cs w → Calls P g vs.toArray w (TellsB k w0 w xs))
    (q : ∀ B cap z, z = xs → X P n ops Q rest ((d, .slice B z.length cap) :: R) (Hp w0 (fun _ => False) (Ch.bag w0 [itI k B cap z] :: cs))) :
    X P n ops Q (⟨some d, .call { callee := .value (.func g), args := us.toArray, argTypes := tys }, ty, pos, af, none⟩ :: rest) R (Hp w0 (fun _ => False) cs) :=
  X_call ha hd fun w hM => (h w hM).mono fun e w' hh => by
    obtain ⟨B, cap, rfl, h1, hc⟩ := hh
    exact ⟨_, rfl, _, bag_one hM h1 hc, q B cap xs rfl⟩
/-- An operation whose guard was passed by itself is passed by. -/
theorem Y_offU {op : Op} {e : Nat} {t : Bool} {M : World → Prop} (hg : (ops[g]?).bind (·.dst) = some e) (hv : R.get e = some undef) (hd : Nat.blt d n = true) (h : Y P n ops md rest ((d, undef) :: R) M) : Y P n ops md (⟨some d, op, ty, pos, af, some (g, t)⟩ :: rest) R M := by
  have key : ∀ a, Mod n a R → Region.wanted ⟨some d, op, ty, pos, af, some (g, t)⟩ (yielded ops a.tmps) = false := fun a hR => by
    have h1 := hR.get e _ hv
    have hy : yielded ops a.tmps g = none := by
      unfold yielded
      rw [hg]
      simp only [Option.bind_some]
      rw [Array.getD_eq_getD_getElem?] at h1
      cases h2 : a.tmps[e]? with
      | none => rfl
      | some u =>
        rw [h2] at h1
        simp only [Option.getD_some] at h1
        rw [h1]
        rfl
    simp [Region.wanted, hy]
  cases md with
  | x Q =>
    refine .x fun a w hR hM => ?_
    have h0 := h.runX _ w (hR.put hd undef) hM
    unfold wpList
    rw [key a hR]
    exact h0
  | q K =>
    refine .q fun a hR => ?_
    have h0 := h.runQ _ (hR.put hd undef)
    unfold wpQuiet
    rw [key a hR]
    exact h0
/-- A beginning of a slice. -/
theorem r_cut0 [hT : HasU P T (.slice E)] {s by_ : Nat} [hE : HasI P E s by_] {e : Int} {M : World → Prop} (hx : R.ev x = some (.slice A len cap)) (hy : R.ev y = some (.int k e)) [hi : NatOf e i] (h : i ≤ cap) :
    Res P n (.slice T x none (some y) none) ty R M (.slice A i cap) := by
  have := r_cutH (P := P) (n := n) (M := M) (ty := ty) (T := T) (s := s) hx hy h
  rwa [cutA0] at this
theorem r_cap [hT : HasU P T (.slice E)] {M : World → Prop} (hx : R.ev x = some (.slice A len cap)) : Res P n (.call { callee := .builtin .cap, args := #[x], argTypes := #[T] }) ty R M (.int .i64 cap) := .mk fun a w hR hM => by
  simp [execOp, hR.ev hx, resolve, invoke, builtin, Builtin.cap_, run_underlying hT.eq, goInt]
/-- A byte of a text. -/
theorem r_indexStr [hT : HasU P T .string] {M : World → Prop} {s : ByteArray} {e : Int} {m : Nat} (hx : R.ev x = some (.string s)) (hy : R.ev y = some (.int k e)) [hi : NatOf e i] (hb : s[i]?.map UInt8.toNat = some m) : Res P n (.index T x y) ty R M (.int .u8 m) := .mk fun a w hR hM => by
  have he := hi.eq
  subst he
  cases hq : s[i]? with
  | none => rw [hq] at hb; cases hb
  | some b =>
    rw [hq] at hb
    have hb : b.toNat = m := Option.some.inj hb
    subst hb
    simp [execOp, hR.ev hx, hR.ev hy, Instr.index, asIntOf, run_underlying hT.eq, hq]
theorem sl_less {xs : List Int} (m : Nat) {w : World} (h : (Ch.sl A cap E k xs).P w) (hm : m ≤ xs.length) : (Ch.sl A cap E k (xs.take m)).P w := by
  obtain ⟨h1, h2⟩ := h
  have hl : (xs.take m).length = m := by simp; omega
  refine ⟨by simp, ?_⟩
  rcases h2 with ⟨h3, h4⟩ | ⟨g, cap', cur, h3, h4, h5, h6, h7, h8, h9⟩
  · have h0 : m = 0 := by omega
    subst h0
    injection h3 with e1 e2 e3
    subst e1
    exact .inl ⟨by rw [hl, e3], by rw [hl]⟩
  · injection h3 with e1 e2 e3
    subst e1
    refine .inr ⟨g, cap', cur, by rw [e3], h4, h5, by rw [hl]; omega, h7, h8, ?_⟩
    rw [hl, List.map_take, ← h9, List.take_take]
    congr 1
    omega
/-- So many noughts, appended to nothing. -/
theorem X_appendZ {by_ : Nat} {kn : IntKind} [hT : HasU P T (.slice E)] [hT' : HasU P T' (.int kn)] [hE : HasI P E 1 by_] [hz : HasZ P E (.int k 0)] {e : Int} {m : Nat} (hx : R.ev x = some (.slice none 0 0)) (hy : R.ev y = some (.int k' e)) (he : e = (m : Int)) (h0 : 0 < m) (hb : m * by_ ≤ 281474976710656) (hm : m ≤ 9223372036854775807) (hd : Nat.blt d n = true)
    (q : ∀ go cap', X P n ops Q rest ((d, .slice (some ⟨go, 0, none⟩) m cap') :: R) (Hp w0 S (Ch.sl (some ⟨go, 0, none⟩) cap' E k (List.replicate m 0) :: cs))) :
    X P n ops Q (⟨some d, .call { callee := .builtin .append, args := #[x, y], argTypes := #[T, T'] }, ty, pos, af, none⟩ :: rest) R (Hp w0 S cs) := .x fun a w hR hM =>
  wpList_plain rfl fun _ hK => by
    subst he
    obtain ⟨info, hi, hi1, hi2⟩ : ∃ info, P.info? E = some info ∧ info.size = 1 ∧ info.bytes = by_ := by
      have := hE.eq
      cases hq : P.info? E with
      | none => simp [hq] at this
      | some i => simp [hq] at this; exact ⟨i, rfl, this.1, this.2⟩
    have hz' : info.zero = some (.int k 0) := by
      have := hz.eq w
      cases hq : info.zero with
      | none => simp [zeroValue, typeInfo, Sem.run_bind, hi, hq, unsupported] at this
      | some z => simp [zeroValue, typeInfo, Sem.run_bind, hi, hq] at this; rw [this]
    have hrun := Go.Lib.run_append_nil_zeros (P := P) w T T' ty E info (.int k 0) k' kn hT.eq hT'.eq hi hz' m h0 (by omega) (by omega) (by rw [hi2]; exact hb)
    have hge := grownCap_ge w m 0 E
    have hle := grownCap_le_maxLen w m 0 E (by unfold maxLen; omega)
    unfold Oper.wp
    rw [execOp_of]
    simp only [execOp, resolve, invoke, builtin, Sem.run_bind, Sem.run_pure, Result.andThen_ok, List.map_toArray, List.map_cons, List.map_nil, hR.ev hx, hR.ev hy, hrun]
    have e0 : ∀ m : Nat, (Builtin.zeroCells (Value.int k 0).cells m).toList = List.replicate m (Value.int k 0) := fun m => by
      have e2 : ∀ i : Nat, [Value.int k 0][i % 1]?.getD default = Value.int k 0 := fun i => by rw [Nat.mod_one]; rfl
      simp [Builtin.zeroCells, Value.cells, e2, List.map_const']
    have e1 : (List.replicate m (Value.int k 0)) = (List.replicate m (0 : Int)).map (Value.int k) := by rw [List.map_replicate]
    refine hK _ _ ((q w.heap.size (grownCap w m 0 E)).runX _ _ (hR.put hd _) ?_)
    refine (hM.drewN 1).add ((Chg.refl _ _).alloc _) ?_ (fun j hj => ?_)
    · refine ⟨by simp, .inr ⟨w.heap.size, grownCap w m 0 E, _, by rw [List.length_replicate], Nat.zero_le _, heap_alloc_new _ _, by rw [List.length_replicate]; exact hge, hle, ?_, ?_⟩⟩
      · have h1 := congrArg List.length (e0 m)
        have h2 := congrArg List.length (e0 (grownCap w m 0 E - m))
        simp only [Array.length_toList, List.length_replicate] at h1 h2
        rw [Array.size_append, h1, h2]
        omega
      · rw [Array.toList_append, e0, e0, List.length_replicate, Nat.mul_one, List.take_append_of_le_length (by simp), List.take_of_length_le (by simp), e1]
    · have : some w.heap.size = some j := hj
      injection this with this
      rw [← this]; exact Nat.le_refl _
end
/-! ### Bags of rows of one's own -/
def Ch.bagN (its : List It) : Ch :=
  ⟨fun k => ∃ it ∈ its, it.vs ≠ [] ∧ ∃ a, it.A = some a ∧ a.block = k,
   fun w => ∀ it ∈ its, it.rd w,
   fun w w' h e it hit => rdv_loc (e it hit) fun a ha hv => h _ ⟨it, hit, hv, a, ha, rfl⟩,
   fun w k e ⟨it, hit, hv, a, ha, hb⟩ => by
    obtain ⟨a', ha', hlt⟩ := rdv_block (e it hit) hv
    rw [ha] at ha'
    injection ha' with ha'
    subst ha'
    omega⟩
section
variable {w0 w w' : World} {S : Nat → Prop} {cs ds es : List Ch} {its jts : List It} {A : Option Addr} {cap l : Nat} {e : TypeId} {vs : List Value}
theorem Hp.bagN0 (h : Hp w0 S cs w) : Hp w0 S (Ch.bagN [] :: cs) w :=
  h.add (Chg.refl _ _) (fun it hit => by simp at hit) (fun j hj => by obtain ⟨it, hit, _⟩ := hj; simp at hit)
theorem Hp.bagNV (h : Hp w0 S (Ch.sv A cap e 1 l vs :: Ch.bagN its :: cs) w) : Hp w0 S (Ch.bagN (⟨A, cap, l, vs⟩ :: its) :: cs) w := by
  have hsv := h.head
  obtain ⟨hs1, hs2⟩ := List.pairwise_cons.1 h.sep
  obtain ⟨hs3, hs4⟩ := List.pairwise_cons.1 hs2
  have hb := h.sat _ (List.mem_cons_of_mem _ (List.mem_cons_self ..))
  have hsub : ∀ k, (Ch.bagN (⟨A, cap, l, vs⟩ :: its)).fp k → (Ch.sv A cap e 1 l vs).fp k ∨ (Ch.bagN its).fp k := fun k ⟨it, hit, hv, a, ha, hb⟩ => by
    rcases List.mem_cons.1 hit with rfl | hit
    · left
      have ha : A = some a := ha
      subst ha
      subst hb
      rfl
    · exact .inr ⟨it, hit, hv, a, ha, hb⟩
  refine ⟨h.chg, fun x hx => ?_, fun x hx k hk => ?_, .cons (fun x hx k hk hxk => ?_) hs4⟩
  · rcases List.mem_cons.1 hx with rfl | hx
    · intro it hit
      rcases List.mem_cons.1 hit with rfl | hit
      · exact rdv_sv hsv
      · exact hb it hit
    · exact h.sat x (List.mem_cons_of_mem _ (List.mem_cons_of_mem _ hx))
  · rcases List.mem_cons.1 hx with rfl | hx
    · rcases hsub k hk with h1 | h1
      · exact h.own _ (List.mem_cons_self ..) k h1
      · exact h.own _ (List.mem_cons_of_mem _ (List.mem_cons_self ..)) k h1
    · exact h.own x (List.mem_cons_of_mem _ (List.mem_cons_of_mem _ hx)) k hk
  · rcases hsub k hk with h1 | h1
    · exact hs1 x (List.mem_cons_of_mem _ hx) k h1 hxk
    · exact hs3 x hx k h1 hxk
theorem Hp.bagNSub (h : Hp w0 S (Ch.bagN its :: cs) w) (hs : ∀ it ∈ jts, it ∈ its) : Hp w0 S (Ch.bagN jts :: cs) w := by
  obtain ⟨hs1, hs2⟩ := List.pairwise_cons.1 h.sep
  have hsub : ∀ k, (Ch.bagN jts).fp k → (Ch.bagN its).fp k := fun k ⟨it, hit, hv, a, ha, hb⟩ => ⟨it, hs it hit, hv, a, ha, hb⟩
  refine ⟨h.chg, fun x hx => ?_, fun x hx k hk => ?_, .cons (fun x hx k hk hxk => hs1 x hx k (hsub k hk) hxk) hs2⟩
  · rcases List.mem_cons.1 hx with rfl | hx
    · exact fun it hit => h.head it (hs it hit)
    · exact h.sat x (List.mem_cons_of_mem _ hx)
  · rcases List.mem_cons.1 hx with rfl | hx
    · exact h.own _ (List.mem_cons_self ..) k (hsub k hk)
    · exact h.own x (List.mem_cons_of_mem _ hx) k hk
/-- Items that are lists of whole numbers. -/
structure JOk (k : IntKind) (js : List It) (L : List (List Int)) : Prop where
  ln : js.length = L.length
  at_ : ∀ (i : Nat) (x : List Int), L[i]? = some x → ∃ B d, js[i]? = some (itI k B d x)
theorem JOk.nil (k : IntKind) : JOk k [] [] := ⟨rfl, fun i x h => by simp at h⟩
theorem JOk.snoc {k : IntKind} {js : List It} {L : List (List Int)} (h : JOk k js L) (B : Option Addr) (d : Nat) (x : List Int) : JOk k (js ++ [itI k B d x]) (L ++ [x]) := ⟨by simp [h.ln], fun i y hy => by
  rcases Nat.lt_or_ge i L.length with hi | hi
  · rw [List.getElem?_append_left hi] at hy
    rw [List.getElem?_append_left (by rw [h.ln]; exact hi)]
    exact h.at_ i y hy
  · rw [List.getElem?_append_right hi] at hy
    have h0 : i - L.length = 0 := by
      have := (List.getElem?_eq_some_iff.1 hy).1
      simpa using this
    rw [h0] at hy
    obtain rfl := Option.some.inj hy
    exact ⟨B, d, by rw [List.getElem?_append_right (by rw [h.ln]; exact hi), h.ln, h0]; rfl⟩⟩
theorem lls_js {k : IntKind} {js : List It} {L : List (List Int)} {n : Nat} (h1 : (Ch.sv A cap e 1 n (js.map It.val)).P w) (h2 : ∀ it ∈ js, it.rd w) (hj : JOk k js L) : LLs k w A cap L := by
  have r := rdv_sv h1
  have hn : n = L.length := by have := sv_len h1; rw [List.length_map, hj.ln] at this; omega
  subst hn
  refine ⟨r.le, r.cap, r.nil, fun i x hx => ?_⟩
  obtain ⟨B, d, hi⟩ := hj.at_ i x hx
  exact ⟨B, d, by rw [r.at_ i (itI k B d x).val (by rw [List.getElem?_map, hi]; rfl)]; rfl, RdV.toS (h2 _ (List.mem_of_getElem? hi))⟩
theorem bagN_rd {it : It} (h : (Ch.bagN its).P w) (hit : it ∈ its) : it.rd w := h it hit
/-- A block that is all a slice's. -/
theorem Hp.blkSv {g s : Nat} (h : Hp w0 S (Ch.blk g vs e :: cs) w) (hl : vs.length = l * s) (hm : l ≤ 9223372036854775807) : Hp w0 S (Ch.sv (Option.some ⟨g, 0, Option.none⟩) l e s l vs :: cs) w := by
  have hf : ∀ k, (Ch.sv (Option.some ⟨g, 0, Option.none⟩) l e s l vs).fp k → k = g := fun k hk => by
    have hk : some g = some k := hk
    injection hk with hk
    exact hk.symm
  obtain ⟨hs1, hs2⟩ := List.pairwise_cons.1 h.sep
  refine ⟨h.chg, fun x hx => ?_, fun x hx k hk => ?_, .cons (fun x hx k hk => hs1 x hx k (hf k hk)) hs2⟩
  · rcases List.mem_cons.1 hx with rfl | hx
    · exact sv_blk h.head hl hm
    · exact h.sat x (List.mem_cons_of_mem _ hx)
  · rcases List.mem_cons.1 hx with rfl | hx
    · exact h.own _ (List.mem_cons_self ..) k (hf k hk)
    · exact h.own x (List.mem_cons_of_mem _ hx) k hk
/-- Two bags of what was there or is new become one. -/
theorem Hp.bagMerge (h : Hp w0 (fun _ => False) (Ch.bag w0 its :: Ch.bag w0 jts :: cs) w) : Hp w0 (fun _ => False) (Ch.bag w0 (its ++ jts) :: cs) w := by
  obtain ⟨hs1, hs2⟩ := List.pairwise_cons.1 h.sep
  obtain ⟨hs3, hs4⟩ := List.pairwise_cons.1 hs2
  have hb := h.sat _ (List.mem_cons_of_mem _ (List.mem_cons_self ..))
  have hsub : ∀ k, (Ch.bag w0 (its ++ jts)).fp k → (Ch.bag w0 its).fp k ∨ (Ch.bag w0 jts).fp k := fun k ⟨hk, it, hit, hv, a, ha, hb⟩ => by
    rcases List.mem_append.1 hit with hit | hit
    · exact .inl ⟨hk, it, hit, hv, a, ha, hb⟩
    · exact .inr ⟨hk, it, hit, hv, a, ha, hb⟩
  refine ⟨h.chg, fun x hx => ?_, fun x hx k hk => ?_, .cons (fun x hx k hk hxk => ?_) hs4⟩
  · rcases List.mem_cons.1 hx with rfl | hx
    · intro it hit
      rcases List.mem_append.1 hit with hit | hit
      · exact h.head it hit
      · exact hb it hit
    · exact h.sat x (List.mem_cons_of_mem _ (List.mem_cons_of_mem _ hx))
  · rcases List.mem_cons.1 hx with rfl | hx
    · exact .inr hk.1
    · exact h.own x (List.mem_cons_of_mem _ (List.mem_cons_of_mem _ hx)) k hk
  · rcases hsub k hk with h1 | h1
    · exact hs1 x (List.mem_cons_of_mem _ hx) k h1 hxk
    · exact hs3 x hx k h1 hxk
/-- A call that has several parts and turns them into others: the rest stays. -/
theorem Hp.frameL (h : Hp w0 S (cs ++ es) w) (h2 : Hp w (fun k => ∃ c ∈ cs, c.fp k) ds w') : Hp w0 S (ds ++ es) w' := by
  obtain ⟨hs1, hs2, hs3⟩ := List.pairwise_append.1 h.sep
  have hlt : ∀ x ∈ es, ∀ k, x.fp k → k < w.heap.size := fun x hx k hk => x.bd w k (h.sat x (List.mem_append_right _ hx)) hk
  have hno : ∀ x ∈ es, ∀ k, x.fp k → ¬ ∃ c ∈ cs, c.fp k := fun x hx k hk ⟨c, hc, hck⟩ => hs3 c hc x hx k hck hk
  refine ⟨h.chg.over h2.chg (fun i hi ⟨c, hc, hck⟩ => (h.own c (List.mem_append_left _ hc) i hck).resolve_right (by omega)), fun x hx => ?_, fun x hx k hk => ?_, List.pairwise_append.2 ⟨h2.sep, hs2, fun d hd x hx k hk hxk => ?_⟩⟩
  · rcases List.mem_append.1 hx with hx | hx
    · exact h2.sat x hx
    · exact x.loc w w' (fun k hk => h2.chg.block k (hlt x hx k hk) (hno x hx k hk)) (h.sat x (List.mem_append_right _ hx))
  · rcases List.mem_append.1 hx with hx | hx
    · rcases h2.own x hx k hk with ⟨c, hc, hck⟩ | hc
      · exact h.own c (List.mem_append_left _ hc) k hck
      · exact .inr (Nat.le_trans h.chg.size hc)
    · exact h.own x (List.mem_append_right _ hx) k hk
  · rcases h2.own d hd k hk with hc | hc
    · exact hno x hx k hxk hc
    · have := hlt x hx k hxk
      omega
theorem Hp.mv {w0 w : World} {S : Nat → Prop} (pre : List Ch) {c : Ch} {post : List Ch} (h : Hp w0 S (pre ++ c :: post) w) : Hp w0 S (c :: (pre ++ post)) w := h.of_perm List.perm_middle
theorem Hp.mvb {w0 w : World} {S : Nat → Prop} (pre : List Ch) {c : Ch} {post : List Ch} (h : Hp w0 S (c :: (pre ++ post)) w) : Hp w0 S (pre ++ c :: post) w := h.of_perm List.perm_middle.symm
theorem Hp.sublist {w0 w : World} {S : Nat → Prop} {cs ds : List Ch} (h : Hp w0 S cs w) (hs : ds.Sublist cs) : Hp w0 S ds w := ⟨h.chg, fun x hx => h.sat x (hs.subset hx), fun x hx => h.own x (hs.subset hx), h.sep.sublist hs⟩
/-- Fewer parts. -/
theorem Hp.less (h : Hp w0 S (cs ++ es) w) : Hp w0 S cs w := ⟨h.chg, fun x hx => h.sat x (List.mem_append_left _ hx), fun x hx => h.own x (List.mem_append_left _ hx), (List.pairwise_append.1 h.sep).1⟩
end
end Go.Proofs.Ytfkhdhdbfejbpaa.MX
