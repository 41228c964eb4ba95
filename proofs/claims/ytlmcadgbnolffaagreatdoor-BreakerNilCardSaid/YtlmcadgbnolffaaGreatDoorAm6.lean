/- The machine's soundness, first part: what its values, blocks and heaps say of the model's. -/
import Derived.Test.YtlmcadgbnolffaaGreatDoorAm5
import Derived.Calls
import Derived.Laws.Sem
namespace Go.Proofs.YtlmcadgbnolffaaGreatDoor.Am

/-- the model's block that an abstract one stands for, from which of its cells on, and how many it has -/
structure Nm where
  B : Nat
  sh : Nat
  cs : Nat
abbrev Nam := Nat → Option Nm

/-- a value, and a list of values, of the model's, that an abstract one stands for -/
def R (ι : Nam) : AV → (Value → Prop) × (List Value → Prop)
  | .bad => (fun _ => True, fun _ => False)
  | .unk => (fun v => v.oneCell' = true, fun _ => False)
  | .bool b => (fun v => v = .bool b, fun _ => False)
  | .int k n => (fun v => v = .int k n, fun _ => False)
  | .str s => (fun v => ∃ b, v = .string b ∧ s = Str.of b, fun _ => False)
  | .ptr b off => (fun v => ∃ m, ι b = some m ∧ v = .pointer (some ⟨m.B, m.sh + off, none⟩), fun _ => False)
  | .nilp => (fun v => v = .pointer none, fun _ => False)
  | .slice b off len es z => (fun v => ∃ m y cap, ι b = some m ∧ v = .slice (some y) len cap ∧ len ≤ cap ∧ (z = true → cap = 0) ∧
      (cap = 0 ∨ (y = ⟨m.B, m.sh + off, none⟩ ∧ m.sh + off + cap * es ≤ m.cs)), fun _ => False)
  | .nils => (fun v => v = .slice none 0 0, fun _ => False)
  | .map b => (fun v => ∃ m, ι b = some m ∧ v = .map (some m.B), fun _ => False)
  | .nilm => (fun v => v = .map none, fun _ => False)
  | .fn f a c => (fun v => ∃ xs ys : Array Value, v = .func (.func f) xs ys ∧ (R ι a).2 xs.toList ∧ (R ι c).2 ys.toList, fun _ => False)
  | .yld l => (fun v => ∃ m, ι l = some m ∧ v = .func (.yield m.B) #[] #[], fun _ => False)
  | .nilf => (fun v => v = .nilFunc, fun _ => False)
  | .ifc t x => (fun v => ∃ y, v = .iface t y ∧ (R ι x).1 y, fun _ => False)
  | .nili => (fun v => v = .nilIface, fun _ => False)
  | .agg cs => (fun v => ∃ xs : Array Value, v = .agg xs ∧ (R ι cs).2 xs.toList, fun _ => False)
  | .tup vs => (fun v => ∃ xs : Array Value, v = .tuple xs ∧ (R ι vs).2 xs.toList, fun _ => False)
  | .nil => (fun _ => False, fun l => l = [])
  | .cons h t => (fun _ => False, fun l => ∃ x xs, l = x :: xs ∧ (R ι h).1 x ∧ (R ι t).2 xs)
def VR (ι : Nam) (a : AV) (v : Value) : Prop := (R ι a).1 v
def VRs (ι : Nam) (a : AV) (l : List Value) : Prop := (R ι a).2 l

/-- ι' knows all that ι knows -/
def Nam.le (ι ι' : Nam) : Prop := ∀ b m, ι b = some m → ι' b = some m
theorem Nam.le_refl (ι : Nam) : ι.le ι := fun _ _ h => h
theorem Nam.le_trans {ι ι' ι'' : Nam} (h : ι.le ι') (k : ι'.le ι'') : ι.le ι'' := fun b m e => k b m (h b m e)

theorem R_mono {ι ι' : Nam} (hle : ι.le ι') (a : AV) : (∀ v, (R ι a).1 v → (R ι' a).1 v) ∧ (∀ l, (R ι a).2 l → (R ι' a).2 l) := by
  induction a with
  | bad => exact ⟨fun _ _ => trivial, fun _ h => h⟩
  | unk => exact ⟨fun _ h => h, fun _ h => h⟩
  | bool b => exact ⟨fun _ h => h, fun _ h => h⟩
  | int k n => exact ⟨fun _ h => h, fun _ h => h⟩
  | str s => exact ⟨fun _ h => h, fun _ h => h⟩
  | ptr b off => exact ⟨fun _ ⟨m, h, e⟩ => ⟨m, hle _ _ h, e⟩, fun _ h => h⟩
  | nilp => exact ⟨fun _ h => h, fun _ h => h⟩
  | slice b off len es z => exact ⟨fun _ ⟨m, y, cap, h, r⟩ => ⟨m, y, cap, hle _ _ h, r⟩, fun _ h => h⟩
  | nils => exact ⟨fun _ h => h, fun _ h => h⟩
  | map b => exact ⟨fun _ ⟨m, h, e⟩ => ⟨m, hle _ _ h, e⟩, fun _ h => h⟩
  | nilm => exact ⟨fun _ h => h, fun _ h => h⟩
  | fn f a c iha ihc => exact ⟨fun _ ⟨xs, ys, e, h, k⟩ => ⟨xs, ys, e, iha.2 _ h, ihc.2 _ k⟩, fun _ h => h⟩
  | yld l => exact ⟨fun _ ⟨m, h, e⟩ => ⟨m, hle _ _ h, e⟩, fun _ h => h⟩
  | nilf => exact ⟨fun _ h => h, fun _ h => h⟩
  | ifc t x ih => exact ⟨fun _ ⟨y, e, h⟩ => ⟨y, e, ih.1 _ h⟩, fun _ h => h⟩
  | nili => exact ⟨fun _ h => h, fun _ h => h⟩
  | agg cs ih => exact ⟨fun _ ⟨xs, e, h⟩ => ⟨xs, e, ih.2 _ h⟩, fun _ h => h⟩
  | tup cs ih => exact ⟨fun _ ⟨xs, e, h⟩ => ⟨xs, e, ih.2 _ h⟩, fun _ h => h⟩
  | nil => exact ⟨fun _ h => h, fun _ h => h⟩
  | cons h t ihh iht => exact ⟨fun _ h => h, fun _ ⟨x, xs, e, hx, hxs⟩ => ⟨x, xs, e, ihh.1 _ hx, iht.2 _ hxs⟩⟩
theorem VR.mono {ι ι' : Nam} (hle : ι.le ι') {a : AV} {v : Value} (h : VR ι a v) : VR ι' a v := (R_mono hle a).1 v h
theorem VRs.mono {ι ι' : Nam} (hle : ι.le ι') {a : AV} {l : List Value} (h : VRs ι a l) : VRs ι' a l := (R_mono hle a).2 l h

/-! ### frames -/
/-- the slots of a frame of n -/
structure EnvR (ι : Nam) (n : Nat) (en : Env) (tmps : Array Value) : Prop where
  size : tmps.size = n
  most : n ≤ 256
  at_ : ∀ i, i < n → VR ι ((gT i).f en) (tmps.getD i undef)
  rest : ∀ i, n ≤ i → i < 256 → (gT i).f en = .bad
theorem EnvR.mono {ι ι' : Nam} (hle : ι.le ι') {n : Nat} {en : Env} {tmps : Array Value} (h : EnvR ι n en tmps) : EnvR ι' n en tmps :=
  ⟨h.size, h.most, fun i hi => (h.at_ i hi).mono hle, h.rest⟩
def DfR (ι : Nam) : List Df → List Deferred → Prop
  | [], ds => ds = []
  | .call f args :: r, ds => ∃ (capt as : Array Value) (ds' : List Deferred), ds = { target := .fn (.func f) capt, args := as } :: ds' ∧ VRs ι args (as.toList ++ capt.toList) ∧ DfR ι r ds'
  | .coll b :: r, ds => ∃ m ds', ι b = some m ∧ ds = { target := .collected m.B, args := #[] } :: ds' ∧ DfR ι r ds'
theorem DfR.mono {ι ι' : Nam} (hle : ι.le ι') : ∀ {l : List Df} {ds : List Deferred}, DfR ι l ds → DfR ι' l ds
  | [], _, h => h
  | .call _ _ :: _, _, ⟨c, as, ds', e, h, k⟩ => ⟨c, as, ds', e, h.mono hle, DfR.mono hle k⟩
  | .coll _ :: _, _, ⟨m, ds', h, e, k⟩ => ⟨m, ds', hle _ _ h, e, DfR.mono hle k⟩

/-! ### blocks -/
/-- every slot that a piece of code names lies below n -/
def opndOk (n : Nat) : Operand → Bool
  | .tmp t => Nat.blt t n
  | .global g => Nat.blt g 64
  | _ => true
def operOk (n : Nat) (ops : List Oper) (o : Oper) : Bool :=
  (match o.dst with | some d => Nat.blt d n | none => true) && o.op.operands.toList.all (opndOk n) &&
  (match o.guard with | some (j, _) => (match ops[j]? with | some x => (match x.dst with | some d => Nat.blt d n | none => false) | none => false) | none => true)
def codeOk (n : Nat) : Code → Bool
  | .skip | .exit _ | .label _ | .goto _ | .ret | .refuse _ => true
  | .region _ ops _ => ops.toList.all (operOk n ops.toList)
  | .seq a b => codeOk n a && codeOk n b
  | .cond c a b => opndOk n c && codeOk n a && codeOk n b
  | .block _ c | .loop c | .scope c => codeOk n c
  | .rangeFunc f ps a c => opndOk n f && ps.toList.all (Nat.blt · n) && codeOk n a && codeOk n c

/-- the first entry of a key -/
def IsFirst : List MapEntry → Value → Option MapEntry → Prop
  | [], _, o => o = none
  | x :: r, k, o => (x.key = k ∧ o = some x) ∨ (x.key ≠ k ∧ IsFirst r k o)
def BR (ι : Nam) (blk : Blk) (o : Obj) (m : Nm) : Prop :=
  match blk with
  | .cells el ro n d t => ∃ arr el' lo hi, o = .cells arr el' (lo, hi) ∧ arr.size = m.cs ∧ m.sh + n ≤ m.cs ∧ n ≤ 4 ^ d ∧
      (∀ i, i < n → VR ι (E.get d (path d i) t) (arr.getD (m.sh + i) undef)) ∧ (ro = false → el' = el ∧ (lo = hi ∨ m.cs ≤ lo))
  | .imap kd n c t => ∃ es, o = .map es c ∧ es.size = n ∧ m.sh = 0 ∧ (∀ e ∈ es.toList, ∃ i : Int, e.key = .int kd i) ∧
      (∀ i, i ≤ keyMx → match E.get 11 (path 11 i) t with
        | none => IsFirst es.toList (.int kd i) none
        | some v => ∃ e, IsFirst es.toList (.int kd i) (some e) ∧ VR ι v e.val)
  | .smap n c l => ∃ es, o = .map es c ∧ es.size = n ∧ m.sh = 0 ∧ (∀ e ∈ es.toList, ∃ s, e.key = .string s) ∧
      (∀ s, match sfind (Str.of s) l with
        | none => IsFirst es.toList (.string s) none
        | some v => ∃ e, IsFirst es.toList (.string s) (some e) ∧ VR ι v e.val)
  | .iter s pos => m.sh = 0 ∧ ∃ b, o = .stringIter b pos ∧ s = Str.of b
  | .loop st pend _ en ps as bo dfr => ∃ (r : Loop) (n : Nat) (md : Nm), o = .loop r ∧ r.state = st ∧ r.pending = pend ∧ EnvR ι n en r.tmps ∧ r.params.toList = ps ∧ r.assign = as ∧ r.body = bo ∧
      ι dfr = some md ∧ r.defers = md.B ∧ codeOk n as = true ∧ codeOk n bo = true ∧ ps.all (Nat.blt · n) = true
  | .dfr => o = .deferred (some [])
  | .taken => o = .deferred none
theorem BR.mono {ι ι' : Nam} (hle : ι.le ι') {blk : Blk} {o : Obj} {m : Nm} (h : BR ι blk o m) : BR ι' blk o m := by
  cases blk with
  | cells el ro n d t =>
    obtain ⟨arr, el', lo, hi, e, h1, h2, h3, h4, h5⟩ := h
    exact ⟨arr, el', lo, hi, e, h1, h2, h3, fun i hi => (h4 i hi).mono hle, h5⟩
  | imap kd n c t =>
    obtain ⟨es, e, h1, h0, h2, h3⟩ := h
    refine ⟨es, e, h1, h0, h2, fun i hi => ?_⟩
    have := h3 i hi
    split at this
    · simp [*]
    · rename_i v hv
      obtain ⟨e, he, hv'⟩ := this
      exact ⟨e, he, hv'.mono hle⟩
  | smap n c l =>
    obtain ⟨es, e, h1, h0, h2, h3⟩ := h
    refine ⟨es, e, h1, h0, h2, fun s => ?_⟩
    have := h3 s
    split at this
    · simp [*]
    · rename_i v hv
      obtain ⟨e, he, hv'⟩ := this
      exact ⟨e, he, hv'.mono hle⟩
  | iter s pos => exact h
  | loop st pend fn en ps as bo dfr =>
    obtain ⟨r, n, md, h1, h2, h3, h4, h5, h6, h7, h8, h9⟩ := h
    exact ⟨r, n, md, h1, h2, h3, h4.mono hle, h5, h6, h7, hle _ _ h8, h9⟩
  | dfr => exact h
  | taken => exact h

/-! ### heaps -/
/-- the live blocks, of those of which D speaks, are as they should be -/
structure WR (ι : Nam) (h : H) (w : World) (D : Nat → Prop := fun _ => True) : Prop where
  most : h.next ≤ 65536
  fresh : ∀ b, h.next ≤ b → ι b = none
  blk : ∀ b x, D b → b < h.next → h.get b = some x → ∃ m o, ι b = some m ∧ w.heap[m.B]? = some o ∧ BR ι x o m
  inj : ∀ b b' x x' m m', D b → D b' → b < h.next → b' < h.next → h.get b = some x → h.get b' = some x' → ι b = some m → ι b' = some m' → m.B = m'.B → b = b'

/-- from one heap, and world, to a later one -/
structure Ext (ι : Nam) (h : H) (w : World) (ι' : Nam) (h' : H) (w' : World) (W : List Nat) : Prop where
  next : h.next ≤ h'.next
  nam : ∀ b, b < h.next → ι' b = ι b
  log : h'.log = W ++ h.log
  ln : h'.ln = h.ln + W.length
  kept : ∀ b, b < h.next → b ∉ W → h'.get b = h.get b
  live : ∀ b, b ∈ W → b < h.next → ∃ x, h.get b = some x
  size : w.heap.size ≤ w'.heap.size
  heap : ∀ k, k < w.heap.size → (∀ b ∈ W, ∀ m, ι b = some m → m.B ≠ k) → w'.heap[k]? = w.heap[k]?
  new : ∀ b m, h.next ≤ b → ι' b = some m → w.heap.size ≤ m.B ∨ ∃ b0 ∈ W, ∃ m0, ι b0 = some m0 ∧ m0.B = m.B
  os : w'.os = w.os
  tape : w'.tape = w.tape
  out : w'.output = w.output
theorem Ext.refl (ι : Nam) (h : H) (w : World) (hf : ∀ b, h.next ≤ b → ι b = none) : Ext ι h w ι h w [] :=
  ⟨Nat.le_refl _, fun _ _ => rfl, rfl, rfl, fun _ _ _ => rfl, fun _ hb => (by cases hb), Nat.le_refl _, fun _ _ _ => rfl, fun b m hb e => (by rw [hf b hb] at e; cases e), rfl, rfl, rfl⟩
theorem Ext.le {ι ι' : Nam} {h h' : H} {w w' : World} {W : List Nat} (e : Ext ι h w ι' h' w' W) (hf : ∀ b, h.next ≤ b → ι b = none) : ι.le ι' := by
  intro b m hb
  rcases Nat.lt_or_ge b h.next with hlt | hge
  · rw [e.nam b hlt]; exact hb
  · rw [hf b hge] at hb; cases hb
theorem Ext.trans {ι ι1 ι2 : Nam} {h h1 h2 : H} {w w1 w2 : World} {W1 W2 : List Nat}
    (e : Ext ι h w ι1 h1 w1 W1) (k : Ext ι1 h1 w1 ι2 h2 w2 W2) : Ext ι h w ι2 h2 w2 (W2 ++ W1) where
  next := Nat.le_trans e.next k.next
  nam b hb := by rw [k.nam b (Nat.lt_of_lt_of_le hb e.next), e.nam b hb]
  log := by rw [k.log, e.log, List.append_assoc]
  ln := by rw [k.ln, e.ln, List.length_append]; omega
  kept b hb hn := by
    rw [k.kept b (Nat.lt_of_lt_of_le hb e.next) (fun hm => hn (List.mem_append_left _ hm)), e.kept b hb (fun hm => hn (List.mem_append_right _ hm))]
  live b hb hlt := by
    rcases List.mem_append.1 hb with h2 | h1
    · by_cases hm : b ∈ W1
      · exact e.live b hm hlt
      · obtain ⟨x, hx⟩ := k.live b h2 (Nat.lt_of_lt_of_le hlt e.next)
        exact ⟨x, by rw [← e.kept b hlt hm]; exact hx⟩
    · exact e.live b h1 hlt
  size := Nat.le_trans e.size k.size
  heap i hi hn := by
    rw [k.heap i (Nat.lt_of_lt_of_le hi e.size) ?_, e.heap i hi (fun b hb m hm => hn b (List.mem_append_right _ hb) m hm)]
    intro b hb m hm hB
    rcases Nat.lt_or_ge b h.next with hlt | hge
    · rw [e.nam b hlt] at hm
      exact hn b (List.mem_append_left _ hb) m hm hB
    · rcases e.new b m hge hm with h0 | ⟨b0, hb0, m0, hm0, hB0⟩
      · omega
      · exact hn b0 (List.mem_append_right _ hb0) m0 hm0 (hB0.trans hB)
  new b m hb hm := by
    rcases Nat.lt_or_ge b h1.next with hlt | hge
    · rw [k.nam b hlt] at hm
      rcases e.new b m hb hm with h0 | ⟨b0, hb0, r⟩
      · exact .inl h0
      · exact .inr ⟨b0, List.mem_append_right _ hb0, r⟩
    · rcases k.new b m hge hm with h0 | ⟨b0, hb0, m0, hm0, hB0⟩
      · exact .inl (Nat.le_trans e.size h0)
      · rcases Nat.lt_or_ge b0 h.next with hlt0 | hge0
        · rw [e.nam b0 hlt0] at hm0
          exact .inr ⟨b0, List.mem_append_left _ hb0, m0, hm0, hB0⟩
        · rcases e.new b0 m0 hge0 hm0 with h0 | ⟨b1, hb1, m1, hm1, hB1⟩
          · exact .inl (by omega)
          · exact .inr ⟨b1, List.mem_append_right _ hb1, m1, hm1, hB1.trans hB0⟩
  os := k.os.trans e.os
  tape := k.tape.trans e.tape
  out := k.out.trans e.out

end Go.Proofs.YtlmcadgbnolffaaGreatDoor.Am
