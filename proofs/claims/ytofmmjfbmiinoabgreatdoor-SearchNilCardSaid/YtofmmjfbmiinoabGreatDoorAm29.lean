/- The machine's soundness: code, put together. -/
/- The machine's soundness: the operations of a region, one after another. -/
import Derived.Test.YtofmmjfbmiinoabGreatDoorAm27
namespace Go.Proofs.YtofmmjfbmiinoabGreatDoor.Am

/-- what a call comes to, by the machine's word -/
def CR (ι : Nam) (h : H) (w : World) (v : AV) (h' : H) : Value → World → Prop := fun v' w' => ∃ ι' W, VR ι' v v' ∧ WR ι' h' w' ∧ Ext ι h w ι' h' w' W
structure CxOk (P : Program) (cx : Cx) : Prop where
  call : ∀ f args h v h', cx.call f args h = .ok v h' → ∀ ι w (vs : Array Value), WR ι h w → GI ι → VRs ι args vs.toList → Ends P (callFunc f vs) w (CR ι h w v h')
  yld : ∀ l args h v h', cx.yld l args h = .ok v h' → ∀ ι w (vs : Array Value) m, WR ι h w → GI ι → ι l = some m → VRs ι args vs.toList → Ends P (Instr.yield m.B vs) w (CR ι h w v h')
def RdOk (ι : Nam) (rd : Option Nat) (b : Frame) : Prop := (rd = none ∧ b.roundOf = none) ∨ ∃ l m, rd = some l ∧ ι l = some m ∧ b.roundOf = some m.B
theorem RdOk.mono {ι ι' : Nam} (h : ι.le ι') {rd : Option Nat} {b : Frame} (k : RdOk ι rd b) : RdOk ι' rd b := by
  rcases k with k | ⟨l, m, h1, h2, h3⟩
  · exact .inl k
  · exact .inr ⟨l, m, h1, h _ _ h2, h3⟩
/-- what must hold ahead -/
structure Pre (P : Program) (n : Nat) (cx : Cx) (ι : Nam) (en : Env) (h : H) (df : List Df) (a : Go.Act) (w : World) (b : Frame) (cs : List Frame) : Prop where
  cok : CxOk P cx
  env : EnvR ι n en a.tmps
  dfr : DfR ι df a.defers
  wr : WR ι h w
  gi : GI ι
  rd : RdOk ι cx.rd b
  calm : Calm b.kind cs
/-- what holds behind -/
structure SR (ι0 : Nam) (h0 : H) (w0 : World) (n : Nat) (ι : Nam) (en : Env) (h : H) (df : List Df) (a : Go.Act) (w : World) : Prop where
  env : EnvR ι n en a.tmps
  dfr : DfR ι df a.defers
  wr : WR ι h w
  ext : ∃ W, Ext ι0 h0 w0 ι h w W
section
variable {P : Program} {n : Nat} {cx : Cx} {ι ι0 ι1 : Nam} {en en0 en1 : Env} {h h0 h1 : H} {df df0 df1 : List Df} {a a0 a1 : Go.Act} {w w0 w1 : World} {b : Frame} {cs : List Frame}
theorem SR.le (s : SR ι0 h0 w0 n ι en h df a w) (k : WR ι0 h0 w0) : ι0.le ι := let ⟨_, e⟩ := s.ext; e.le k.fresh
theorem Pre.next (p : Pre P n cx ι0 en0 h0 df0 a0 w0 b cs) (s : SR ι0 h0 w0 n ι en h df a w) : Pre P n cx ι en h df a w b cs :=
  ⟨p.cok, s.env, s.dfr, s.wr, p.gi.mono (s.le p.wr), p.rd.mono (s.le p.wr), p.calm⟩
theorem Pre.here (p : Pre P n cx ι en h df a w b cs) : SR ι h w n ι en h df a w := ⟨p.env, p.dfr, p.wr, [], Ext.refl ι h w p.wr.fresh⟩
theorem SR.trans (s : SR ι0 h0 w0 n ι1 en1 h1 df1 a1 w1) (t : SR ι1 h1 w1 n ι en h df a w) : SR ι0 h0 w0 n ι en h df a w := by
  obtain ⟨W, e⟩ := s.ext
  obtain ⟨W', e'⟩ := t.ext
  exact ⟨t.env, t.dfr, t.wr, _, e.trans e'⟩
/-- how the model's machine comes out of a piece of code -/
def Out (P : Program) (b : Frame) (n : Nat) (kk : List Item) (cs : List Frame) (ι : Nam) (h : H) (w : World) (m : Machine) : XR → Prop
  | .fail => True
  | .norm en' h' df' => ∃ ι' a' w', Steps P m (lone (St b a' kk) cs w') ∧ SR ι h w n ι' en' h' df' a' w'
  | .ret en' h' df' => ∃ ι' a' w' todo, Steps P m (lone (St b a' (.code .ret :: todo)) cs w') ∧ SR ι h w n ι' en' h' df' a' w'
  | .ext i en' h' df' => ∃ ι' a' w' todo, exitTo i todo = exitTo i kk ∧ Steps P m (lone (St b a' (.code (.exit i) :: todo)) cs w') ∧ SR ι h w n ι' en' h' df' a' w'
  | .got l en' h' df' => ∃ ι' a' w' todo, gotoIn l todo = gotoIn l kk ∧ Steps P m (lone (St b a' (.code (.goto l) :: todo)) cs w') ∧ SR ι h w n ι' en' h' df' a' w'
theorem Out.trans {kk : List Item} {m m1 : Machine} {r : XR} (hs : Steps P m m1) (s : SR ι0 h0 w0 n ι1 en1 h1 df1 a1 w1) (o : Out P b n kk cs ι1 h1 w1 m1 r) : Out P b n kk cs ι0 h0 w0 m r := by
  cases r with
  | fail => trivial
  | norm en' h' df' => obtain ⟨ι', a', w', q, t⟩ := o; exact ⟨ι', a', w', hs.trans q, s.trans t⟩
  | ret en' h' df' => obtain ⟨ι', a', w', todo, q, t⟩ := o; exact ⟨ι', a', w', todo, hs.trans q, s.trans t⟩
  | ext i en' h' df' => obtain ⟨ι', a', w', todo, e, q, t⟩ := o; exact ⟨ι', a', w', todo, e, hs.trans q, s.trans t⟩
  | got l en' h' df' => obtain ⟨ι', a', w', todo, e, q, t⟩ := o; exact ⟨ι', a', w', todo, e, hs.trans q, s.trans t⟩
theorem Out.steps {kk : List Item} {m m1 : Machine} {r : XR} (hs : Steps P m m1) (o : Out P b n kk cs ι0 h0 w0 m1 r) : Out P b n kk cs ι0 h0 w0 m r := by
  cases r with
  | fail => trivial
  | norm en' h' df' => obtain ⟨ι', a', w', q, t⟩ := o; exact ⟨ι', a', w', hs.trans q, t⟩
  | ret en' h' df' => obtain ⟨ι', a', w', todo, q, t⟩ := o; exact ⟨ι', a', w', todo, hs.trans q, t⟩
  | ext i en' h' df' => obtain ⟨ι', a', w', todo, e, q, t⟩ := o; exact ⟨ι', a', w', todo, e, hs.trans q, t⟩
  | got l en' h' df' => obtain ⟨ι', a', w', todo, e, q, t⟩ := o; exact ⟨ι', a', w', todo, e, hs.trans q, t⟩
/-- through a plain item -/
theorem Out.pass {kk : List Item} {x : Item} (hx : x.plain = true) {m : Machine} {r : XR} (hr : ∀ en h df, r ≠ .norm en h df) (o : Out P b n (x :: kk) cs ι0 h0 w0 m r) : Out P b n kk cs ι0 h0 w0 m r := by
  cases r with
  | fail => trivial
  | norm en' h' df' => exact absurd rfl (hr _ _ _)
  | ret en' h' df' => exact o
  | ext i en' h' df' =>
    obtain ⟨ι', a', w', todo, e, q, t⟩ := o
    exact ⟨ι', a', w', todo, (by rw [e]; cases x <;> first | rfl | (cases hx; done)), q, t⟩
  | got l en' h' df' =>
    obtain ⟨ι', a', w', todo, e, q, t⟩ := o
    exact ⟨ι', a', w', todo, (by rw [e]; cases x <;> first | rfl | (cases hx; done)), q, t⟩
end
def KOk (P : Program) (n : Nat) (k : K) (s : List Item → List Item) : Prop :=
  ∀ cx ι en h df a w b cs, Pre P n cx ι en h df a w b cs → ∀ kk, Out P b n kk cs ι h w (lone (St b a (s kk)) cs w) (k.k cx en h df)
def LkOk (P : Program) (n : Nat) (lk : Nat → Option K) (c : Code) : Prop :=
  ∀ l, match lk l, findLabel c l with
    | some r, some rest => KOk P n r (fun kk => .code rest :: kk)
    | none, none => True
    | _, _ => False
section
variable {P : Program} {n : Nat}
theorem KOk.pre {k : K} {s s' : List Item → List Item} (hs : ∀ b a kk cs w, step P (lone (St b a (s' kk)) cs w) = .next (lone (St b a (s kk)) cs w)) (hk : KOk P n k s) : KOk P n k s' := by
  intro cx ι en h df a w b cs p kk
  exact Out.steps (.one (hs b a kk cs w)) (hk cx ι en h df a w b cs p kk)
theorem kNorm_ok : KOk P n kNorm (fun kk => kk) := fun _ ι _ _ _ a w _ _ p _ => ⟨ι, a, w, .refl _ _, p.here⟩
theorem kFail_ok (s : List Item → List Item) : KOk P n failK s := fun _ _ _ _ _ _ _ _ _ _ _ => trivial
theorem kExit_ok (i : Nat) : KOk P n ⟨fun _ => .ext i⟩ (fun kk => .code (.exit i) :: kk) := fun _ ι _ _ _ a w _ _ p kk => ⟨ι, a, w, kk, rfl, .refl _ _, p.here⟩
theorem kGoto_ok (l : Nat) : KOk P n ⟨fun _ => .got l⟩ (fun kk => .code (.goto l) :: kk) := fun _ ι _ _ _ a w _ _ p kk => ⟨ι, a, w, kk, rfl, .refl _ _, p.here⟩
theorem kRet_ok : KOk P n ⟨fun _ => .ret⟩ (fun kk => .code .ret :: kk) := fun _ ι _ _ _ a w _ _ p kk => ⟨ι, a, w, kk, .refl _ _, p.here⟩
theorem kSeq_ok {ka kb : K} {sa : List Item → List Item} {y : Code} (ha : KOk P n ka sa) (hb : KOk P n kb (fun kk => .code y :: kk)) : KOk P n (kSeq ka kb) (fun kk => sa (.code y :: kk)) := by
  intro cx ι en h df a w b cs p kk
  have o := ha cx ι en h df a w b cs p (.code y :: kk)
  show Out P b n kk cs ι h w _ (XR.rec (motive := fun _ => XR) .fail (kb.k cx) .ret .ext .got (ka.k cx en h df))
  generalize ka.k cx en h df = r at o
  cases r with
  | fail => trivial
  | norm en1 h1 df1 =>
    obtain ⟨ι1, a1, w1, q, s⟩ := o
    exact Out.trans q s (hb cx ι1 en1 h1 df1 a1 w1 b cs (p.next s) kk)
  | ret en1 h1 df1 => exact Out.pass (x := .code y) rfl (by simp) o
  | ext i en1 h1 df1 => exact Out.pass (x := .code y) rfl (by simp) o
  | got l en1 h1 df1 => exact Out.pass (x := .code y) rfl (by simp) o
theorem kCond_ok {c : Operand} (hc : opndOk n c = true) {ka kb : K} {x y : Code} (ha : KOk P n ka (fun kk => .code x :: kk)) (hb : KOk P n kb (fun kk => .code y :: kk)) :
    KOk P n (kCond (ev c) ka kb) (fun kk => .code (.cond c x y) :: kk) := by
  intro cx ι en h df a w b cs p kk
  have hv := ev_ok p.env p.gi c hc
  show Out P b n kk cs ι h w _ (OB.rec (motive := fun _ => XR) .fail (kb.k cx en h df) (ka.k cx en h df) (toB ((ev c).f en)))
  cases ht : toB ((ev c).f en) with
  | none => trivial
  | f =>
    rw [toB_f ht] at hv
    exact Out.steps (.one (st_cond (t := false) hv)) (hb cx ι en h df a w b cs p kk)
  | t =>
    rw [toB_t ht] at hv
    exact Out.steps (.one (st_cond (t := true) hv)) (ha cx ι en h df a w b cs p kk)
theorem kBlock_ok {i : Nat} {ka : K} {x : Code} (ha : KOk P n ka (fun kk => .code x :: kk)) : KOk P n (kBlock i ka) (fun kk => .code (.block i x) :: kk) := by
  intro cx ι en h df a w b cs p kk
  have o := ha cx ι en h df a w b cs p (.inBlock i :: kk)
  refine Out.steps (.one st_block) ?_
  show Out P b n kk cs ι h w _ (XR.rec (motive := fun _ => XR) .fail .norm .ret (leave i) .got (ka.k cx en h df))
  generalize ka.k cx en h df = r at o
  cases r with
  | fail => trivial
  | norm en1 h1 df1 =>
    obtain ⟨ι1, a1, w1, q, s⟩ := o
    exact ⟨ι1, a1, w1, q.trans (.one st_inBlock), s⟩
  | ret en1 h1 df1 => exact o
  | ext j en1 h1 df1 =>
    obtain ⟨ι1, a1, w1, todo, e, q, s⟩ := o
    have e' : exitTo j todo = if i == j then some kk else exitTo j kk := by
      rw [e]
      have : exitTo j (.inBlock i :: kk) = if i == j then some kk else exitTo j kk := by
        simp only [exitTo]
      exact this
    show Out P b n kk cs ι h w _ (Bool.rec (.ext j en1 h1 df1) (.norm en1 h1 df1) (Nat.beq j i))
    cases hj : Nat.beq j i
    · have hne : j ≠ i := fun c => by rw [c, Nat.beq_refl] at hj; cases hj
      rw [if_neg (by simp; exact fun c => hne c.symm)] at e'
      exact ⟨ι1, a1, w1, todo, e', q, s⟩
    · obtain rfl := Nat.eq_of_beq_eq_true hj
      rw [if_pos (by simp)] at e'
      exact ⟨ι1, a1, w1, q.trans (.one (st_exit e')), s⟩
  | got l en1 h1 df1 =>
    obtain ⟨ι1, a1, w1, todo, e, q, s⟩ := o
    exact ⟨ι1, a1, w1, todo, by rw [e]; rfl, q, s⟩
noncomputable def loopN (ka : K) (cx : Cx) : Nat → Env → H → List Df → XR := Nat.rec (motive := fun _ => Env → H → List Df → XR) (fun _ _ _ => .fail)
  (fun _ ih en h df => XR.rec (motive := fun _ => XR) .fail ih .ret .ext .got (ka.k cx en h df))
theorem kLoop_ok {ka : K} {x : Code} (ha : KOk P n ka (fun kk => .code x :: kk)) : KOk P n (kLoop ka) (fun kk => .code (.loop x) :: kk) := by
  intro cx ι en h df a w b cs p kk
  refine Out.steps (.one st_loop) ?_
  show Out P b n kk cs ι h w _ (loopN ka cx cx.fuel en h df)
  generalize cx.fuel = N
  induction N generalizing ι en h df a w with
  | zero => trivial
  | succ N ih =>
    have o := ha cx ι en h df a w b cs p (.inLoop x :: kk)
    show Out P b n kk cs ι h w _ (XR.rec (motive := fun _ => XR) .fail (loopN ka cx N) .ret .ext .got (ka.k cx en h df))
    generalize ka.k cx en h df = r at o
    cases r with
    | fail => trivial
    | norm en1 h1 df1 =>
      obtain ⟨ι1, a1, w1, q, s⟩ := o
      exact Out.trans (q.trans (.one st_inLoop)) s (ih ι1 en1 h1 df1 a1 w1 (p.next s))
    | ret en1 h1 df1 => exact Out.pass (x := .inLoop x) rfl (by simp) o
    | ext i en1 h1 df1 => exact Out.pass (x := .inLoop x) rfl (by simp) o
    | got l en1 h1 df1 => exact Out.pass (x := .inLoop x) rfl (by simp) o
noncomputable def scopeN (lk : Nat → Option K) (cx : Cx) : Nat → K → Env → H → List Df → XR := Nat.rec (motive := fun _ => K → Env → H → List Df → XR) (fun _ _ _ _ => .fail)
  (fun _ ih k en h df => XR.rec (motive := fun _ => XR) .fail .norm .ret .ext
    (fun l en' h' df' => match lk l with
      | some r => ih r en' h' df'
      | none => .got l en' h' df') (k.k cx en h df))
theorem kScope_ok {ka : K} {lk : Nat → Option K} {x : Code} (ha : KOk P n ka (fun kk => .code x :: kk)) (hl : LkOk P n lk x) : KOk P n (kScope ka lk) (fun kk => .code (.scope x) :: kk) := by
  intro cx ι en h df a w b cs p kk
  refine Out.steps (.one st_scope) ?_
  show Out P b n kk cs ι h w _ (scopeN lk cx cx.fuel ka en h df)
  generalize cx.fuel = N
  generalize hc : x = y at ha
  have ha' : KOk P n ka (fun kk => .code y :: kk) := ha
  have goal : ∀ N (ka : K) (y : Code), KOk P n ka (fun kk => .code y :: kk) → ∀ ι en h df a w, Pre P n cx ι en h df a w b cs →
      Out P b n kk cs ι h w (lone (St b a (.code y :: .inScope x :: kk)) cs w) (scopeN lk cx N ka en h df) := by
    intro N
    induction N with
    | zero => intros; trivial
    | succ N ih =>
      intro ka y ha ι en h df a w p
      have o := ha cx ι en h df a w b cs p (.inScope x :: kk)
      show Out P b n kk cs ι h w _ (XR.rec (motive := fun _ => XR) .fail .norm .ret .ext
        (fun l en' h' df' => match lk l with
          | some r => scopeN lk cx N r en' h' df'
          | none => .got l en' h' df') (ka.k cx en h df))
      generalize ka.k cx en h df = r at o
      cases r with
      | fail => trivial
      | norm en1 h1 df1 =>
        obtain ⟨ι1, a1, w1, q, s⟩ := o
        exact ⟨ι1, a1, w1, q.trans (.one st_inScope), s⟩
      | ret en1 h1 df1 => exact o
      | ext i en1 h1 df1 =>
        obtain ⟨ι1, a1, w1, todo, e, q, s⟩ := o
        exact ⟨ι1, a1, w1, todo, by rw [e]; rfl, q, s⟩
      | got l en1 h1 df1 =>
        obtain ⟨ι1, a1, w1, todo, e, q, s⟩ := o
        have hll := hl l
        have e' : gotoIn l todo = match findLabel x l with
          | some rest => some (.code rest :: .inScope x :: kk)
          | none => gotoIn l kk := by rw [e]; rfl
        show Out P b n kk cs ι h w _ (match lk l with
          | some r => scopeN lk cx N r en1 h1 df1
          | none => .got l en1 h1 df1)
        cases hk : lk l with
        | none =>
          rw [hk] at hll
          cases hf : findLabel x l with
          | none =>
            rw [hf] at e'
            exact ⟨ι1, a1, w1, todo, e', q, s⟩
          | some rest => rw [hf] at hll; exact hll.elim
        | some r =>
          rw [hk] at hll
          cases hf : findLabel x l with
          | none => rw [hf] at hll; exact hll.elim
          | some rest =>
            rw [hf] at hll e'
            exact Out.trans (q.trans (.one (st_goto e'))) s (ih r rest hll ι1 en1 h1 df1 a1 w1 (p.next s))
  subst hc
  exact goal N ka x ha ι en h df a w p
theorem lkSeq_ok {a b : Nat → Option K} {kb : K} {x y : Code} (ha : LkOk P n a x) (hb : LkOk P n b y) (hk : KOk P n kb (fun kk => .code y :: kk)) : LkOk P n (lkSeq a b kb) (.seq x y) := by
  intro l
  have h1 := ha l
  have h2 := hb l
  have e1 : lkSeq a b kb l = match a l with | some r => some (kSeq r kb) | none => b l := rfl
  have e2 : findLabel (.seq x y) l = match findLabel x l with | some rest => some (.seq rest y) | none => findLabel y l := by
    rw [findLabel]; cases findLabel x l <;> rfl
  rw [e1, e2]
  cases hal : a l with
  | none =>
    rw [hal] at h1
    cases hf : findLabel x l with
    | none => exact h2
    | some rest => rw [hf] at h1; exact h1.elim
  | some r =>
    rw [hal] at h1
    cases hf : findLabel x l with
    | none => rw [hf] at h1; exact h1.elim
    | some rest =>
      rw [hf] at h1
      exact KOk.pre (s := fun kk => .code rest :: .code y :: kk) (fun _ _ _ _ _ => st_seq) (kSeq_ok h1 hk)
theorem noLk_ok (c : Code) (h : ∀ l, findLabel c l = none) : LkOk P n noLk c := by
  intro l
  rw [h l]
  exact trivial
end
end Go.Proofs.YtofmmjfbmiinoabGreatDoor.Am
namespace Go.Proofs.YtofmmjfbmiinoabGreatDoor.Am
section
variable {P : Program} {g : G} {n : Nat} {cx : Cx} {ι : Nam} {en : Env} {h h' : H} {df df' : List Df} {a : Go.Act} {w : World} {b : Frame} {cs : List Frame} {D : Nat → Prop}
/-- what one operation comes to, by the machine's word -/
def OpR (cx : Cx) (k : OpK) (en : Env) (h : H) (df : List Df) (v : AV) (h' : H) (df' : List Df) : Prop :=
  match k with
  | .plain a => a.f en h = .ok v h' ∧ df' = df
  | .call f as => apply cx ((ev f).f en) ((opsL as).f en) h = .ok v h' ∧ df' = df
  | .defer f as => cx.rd = none ∧ v = .tup .nil ∧ h' = h ∧ ∃ g0 x c, (ev f).f en = .fn g0 x c ∧ df' = .call g0 (lapp x (lapp ((opsL as).f en) c)) :: df
  | .recover => cx.rd = none ∧ v = .nili ∧ h' = h ∧ df' = df
theorem body_inv (d : Option Tmp) (k : OpK) (ih : K) : (bodyK d k ih).k cx en h df = .fail ∨ ∃ v h' df', (bodyK d k ih).k cx en h df = ih.k cx ((pO d).f v en) h' df' ∧ OpR cx k en h df v h' df' := by
  cases k with
  | plain x =>
    cases d with
    | none =>
      have e : (bodyK none (.plain x) ih).k cx en h df = onR (fun _ h' => ih.k cx en h' df) (x.f en h) := rfl
      rw [e]
      cases hr : x.f en h with
      | fail => exact .inl rfl
      | ok v h' => exact .inr ⟨v, h', df, rfl, hr, rfl⟩
    | some t =>
      have e : (bodyK (some t) (.plain x) ih).k cx en h df = onR (fun v h' => ih.k cx ((pT t).f v en) h' df) (x.f en h) := rfl
      rw [e]
      cases hr : x.f en h with
      | fail => exact .inl rfl
      | ok v h' => exact .inr ⟨v, h', df, rfl, hr, rfl⟩
  | call f as =>
    have e : (bodyK d (.call f as) ih).k cx en h df = onR (fun v h' => ih.k cx ((pO d).f v en) h' df) (apply cx ((ev f).f en) ((opsL as).f en) h) := rfl
    rw [e]
    cases hr : apply cx ((ev f).f en) ((opsL as).f en) h with
    | fail => exact .inl rfl
    | ok v h' => exact .inr ⟨v, h', df, rfl, hr, rfl⟩
  | defer f as =>
    have e : (bodyK d (.defer f as) ih).k cx en h df = (match cx.rd, (ev f).f en with
      | none, .fn g a c => ih.k cx ((pO d).f (.tup .nil) en) h (.call g (lapp a (lapp ((opsL as).f en) c)) :: df)
      | _, _ => .fail) := rfl
    rw [e]
    split
    · rename_i g0 x c hrd hf
      exact .inr ⟨_, _, _, rfl, hrd, rfl, rfl, g0, x, c, hf, rfl⟩
    · exact .inl rfl
  | recover =>
    have e : (bodyK d .recover ih).k cx en h df = (match cx.rd with
      | none => ih.k cx ((pO d).f .nili en) h df
      | some _ => .fail) := rfl
    rw [e]
    split
    · rename_i hrd
      exact .inr ⟨_, _, _, rfl, hrd, rfl, rfl, rfl⟩
    · exact .inl rfl
theorem put_env {d : Option Tmp} {v : AV} {v' : Value} (hE : EnvR ι n en a.tmps) (hd : ∀ t, d = some t → t < n) (hv : VR ι v v') : EnvR ι n ((pO d).f v en) (a.put d v').tmps := by
  cases d with
  | none => exact hE
  | some t => exact hE.put (hd t rfl) hv
theorem put_defers (a : Go.Act) (d : Option Tmp) (v : Value) : (a.put d v).defers = a.defers := by cases d <;> rfl
theorem oper_dst {ops : List Oper} {o : Oper} (h : operOk n ops o = true) : ∀ t, o.dst = some t → t < n := by
  intro t ht
  unfold operOk at h
  simp only [Bool.and_eq_true] at h
  have := h.1.1
  rw [ht] at this
  have : Nat.ble (t + 1) n = true := this
  rw [Nat.ble_eq] at this
  exact this
theorem oper_opnds {ops : List Oper} {o : Oper} (h : operOk n ops o = true) : o.op.operands.toList.all (opndOk n) = true := by
  unfold operOk at h
  simp only [Bool.and_eq_true] at h
  exact h.1.2
/-- a guard, and what the model asks -/
theorem guard_ok {ops : Array Oper} {o : Oper} (hop : operOk n ops.toList o = true) (hE : EnvR ι n en a.tmps) {j : Nat} {wn : Bool} (hg : o.guard = some (j, wn)) {t : Tmp} (ht : dstAt ops.toList j = some t) :
    (gsel wn ((gT t).f en) = .t → Region.wanted o (yielded ops a.tmps) = true) ∧ (gsel wn ((gT t).f en) = .f → Region.wanted o (yielded ops a.tmps) = false) := by
  unfold operOk at hop
  simp only [Bool.and_eq_true] at hop
  have h3 := hop.2
  rw [hg] at h3
  dsimp only at h3
  unfold dstAt at ht
  rw [Array.getElem?_toList] at ht h3
  cases hoj : ops[j]? with
  | none => rw [hoj] at ht; cases ht
  | some oj =>
    rw [hoj] at ht h3
    dsimp only at ht h3
    rw [ht] at h3
    have h3 : Nat.ble (t + 1) n = true := h3
    rw [Nat.ble_eq] at h3
    have htn : t < n := h3
    have hv := hE.at_ t htn
    have hw : Region.wanted o (yielded ops a.tmps) = (yielded ops a.tmps j == some wn) := by
      unfold Region.wanted; rw [hg]
    have hy : yielded ops a.tmps j = match a.tmps.getD t undef with | .bool b => some b | _ => none := by
      unfold yielded
      rw [hoj]
      simp only [Option.bind_some, ht]
      have hlt : t < a.tmps.size := by rw [hE.size]; exact htn
      rw [Array.getElem?_eq_getElem hlt]
      have : a.tmps.getD t undef = a.tmps[t] := by simp [Array.getD, hlt]
      rw [this]
      cases a.tmps[t] <;> rfl
    rw [hw, hy]
    generalize (gT t).f en = x at hv
    generalize a.tmps.getD t undef = y at hv
    cases x with
    | bool bb =>
      cases hv
      cases bb <;> cases wn <;> exact ⟨(fun c => by first | rfl | (cases c; done)), (fun c => by first | rfl | (cases c; done))⟩
    | tup vs =>
      obtain ⟨xs, rfl, _⟩ := hv
      cases wn <;> exact ⟨(fun c => by cases c), (fun _ => rfl)⟩
    | _ => exact ⟨(fun c => by cases c), (fun c => by cases c)⟩
theorem Calm.self {kind : CallKind} {cs : List Frame} (h : Calm kind cs) : Calm kind cs := h
/-- what an operation that calls nothing does to the model's machine -/
theorem plain_step (hg : GOk P g) (k : WR ι h w D) (hE : EnvR ι n en a.tmps) (hG : GI ι) {ops : Array Oper} {i : Nat} {rest : List Nat} {kk : List Item} {o : Oper} (ho : ops[i]? = some o)
    (hop : o.op.operands.toList.all (opndOk n) = true) (hw : Region.wanted o (yielded ops a.tmps) = true) {x : Act} (hk : opK g o.op = .plain x) {v : AV} (e : x.f en h = .ok v h') (hD : ∀ f, accOf o.op = some f → ∀ b ∈ f en, D b) :
    ∃ ι' W v' w', Steps P (lone (St b a (.inRegion ops (i :: rest) :: kk)) cs w) (lone (St b (a.put o.dst v') (.inRegion ops rest :: kk)) cs w') ∧ VR ι' v v' ∧ Loc ι h w ι' h' w' W := by
  have hx : x = aop g o.op ∧ isDefer o.op = false ∧ ∃ f, accOf o.op = some f := by
    cases hop' : o.op with
    | call c =>
      rw [hop'] at hk
      cases hc : c.callee with
      | value f => simp only [opK, hc] at hk; cases hk
      | invoke r m =>
        simp only [opK, hc] at hk
        cases hk
        unfold aop at e
        dsimp only at e
        rw [hc] at e
        cases e
      | builtin bb =>
        refine ⟨?_, rfl, ?_⟩
        · cases bb <;> first
            | (simp only [opK, hc] at hk; cases hk; rfl)
            | (simp only [opK, hc] at hk; cases hk)
        · exact ⟨_, by unfold accOf; dsimp only; rw [hc]⟩
    | defer c =>
      rw [hop'] at hk
      cases hc : c.callee <;> simp only [opK, hc] at hk <;> cases hk <;> cases e
    | _ =>
      rw [hop'] at hk
      cases hk
      exact ⟨rfl, rfl, _, rfl⟩
  obtain ⟨rfl, hd, f, hf⟩ := hx
  obtain ⟨ι', w', W, nx, h1, h2, h3⟩ := aop_ok (P := P) hE hG hg k o hop hf (hD f hf) e
  rcases h2 with ⟨v', rfl, hv⟩ | ⟨rfl, rfl⟩
  · obtain ⟨v2, w2, ⟨hv2, hw2⟩, hs⟩ := ends_op (R := fun u w2 => u = v' ∧ w2 = w') (k := kk) (cs := cs) (b := b) (rest := rest) ho hw (.inr hd) (.inl ⟨v', w', h1, rfl, rfl⟩)
    subst hv2; subst hw2
    exact ⟨ι', W, v2, w2, hs, hv, h3⟩
  · exact ⟨ι', W, undef, w', skip_op ho hw (.inr hd) h1, ⟨#[], rfl, rfl⟩, h3⟩
theorem apply_ok (hc : CxOk P cx) (k : WR ι h w) (hG : GI ι) {f args v : AV} {vf : Value} {vs : Array Value} (hf : VR ι f vf) (ha : VRs ι args vs.toList) (e : apply cx f args h = .ok v h') :
    Ends P (do let d ← Deferred.ofValue vf vs; invoke d.target d.args) w (CR ι h w v h') := by
  unfold apply at e
  split at e
  · rename_i f0 x c
    obtain ⟨xs, ys, rfl, hx, hy⟩ := hf
    refine Ends.congr (s := callFunc f0 (xs ++ vs ++ ys)) rfl (hc.call _ _ _ _ _ e ι w _ k hG ?_)
    rw [Array.toList_append, Array.toList_append, List.append_assoc]
    exact lapp_ok hx (lapp_ok ha hy)
  · rename_i l
    obtain ⟨m, hm, rfl⟩ := hf
    refine Ends.congr (s := Instr.yield m.B vs) ?_ (hc.yld _ _ _ _ _ e ι w vs m k hG hm ha)
    show (Instr.yield m.B (#[] ++ vs)).run P w = _
    rw [Array.empty_append]
  · cases e
/-- what a call does to the model's machine -/
theorem call_step (hc : CxOk P cx) (k : WR ι h w) (hE : EnvR ι n en a.tmps) (hG : GI ι) {ops : Array Oper} {i : Nat} {rest : List Nat} {kk : List Item} {o : Oper} (ho : ops[i]? = some o)
    (hop : o.op.operands.toList.all (opndOk n) = true) (hw : Region.wanted o (yielded ops a.tmps) = true) {f : Operand} {as : List Operand} (hk : opK g o.op = .call f as) {v : AV} (e : apply cx ((ev f).f en) ((opsL as).f en) h = .ok v h') :
    ∃ ι' W v' w', Steps P (lone (St b a (.inRegion ops (i :: rest) :: kk)) cs w) (lone (St b (a.put o.dst v') (.inRegion ops rest :: kk)) cs w') ∧ VR ι' v v' ∧ WR ι' h' w' ∧ Ext ι h w ι' h' w' W := by
  have hx : ∃ c, o.op = .call c ∧ c.callee = .value f ∧ as = c.args.toList := by
    cases hop' : o.op with
    | call c =>
      rw [hop'] at hk
      cases hc : c.callee with
      | value f0 => simp only [opK, hc] at hk; cases hk; exact ⟨c, rfl, hc, rfl⟩
      | invoke r m => simp only [opK, hc] at hk; cases hk
      | builtin bb => cases bb <;> (simp only [opK, hc] at hk; cases hk)
    | defer c => rw [hop'] at hk; cases hc : c.callee <;> (simp only [opK, hc] at hk; cases hk)
    | _ => rw [hop'] at hk; cases hk
  obtain ⟨c, hoc, hcv, rfl⟩ := hx
  have hops : opndOk n f = true ∧ c.args.toList.all (opndOk n) = true := by
    rw [hoc] at hop
    have : (c.operands).toList.all (opndOk n) = true := hop
    unfold Call.operands at this
    rw [hcv] at this
    simpa using this
  have hvf := ev_ok hE hG f hops.1
  have hva := opsL_ok hE hG c.args.toList hops.2
  rw [← Array.toList_map] at hva
  have he := apply_ok hc k hG hvf hva e
  have hx : execOp a.eval o = (do let d ← resolve a.eval c o.type; invoke d.target d.args : Sem Next) := by
    unfold execOp; rw [hoc]
  have he2 : Ends P (execOp a.eval o) w (CR ι h w v h') := by
    refine Ends.congr ?_ he
    rw [hx]
    unfold resolve
    rw [hcv]
  obtain ⟨v', w', ⟨ι', W, h1, h2, h3⟩, hs⟩ := ends_op (k := kk) (cs := cs) (b := b) (rest := rest) ho hw (.inr (by rw [hoc]; rfl)) he2
  exact ⟨ι', W, v', w', hs, h1, h2, h3⟩
/-- one operation, where all that there is is as it should be -/
theorem op_step (hg : GOk P g) (p : Pre P n cx ι en h df a w b cs) {ops : Array Oper} {i : Nat} {rest : List Nat} {kk : List Item} {o : Oper} (ho : ops[i]? = some o) (hok : operOk n ops.toList o = true)
    (hw : Region.wanted o (yielded ops a.tmps) = true) {v : AV} (e : OpR cx (opK g o.op) en h df v h' df') :
    ∃ ι' a' w', Steps P (lone (St b a (.inRegion ops (i :: rest) :: kk)) cs w) (lone (St b a' (.inRegion ops rest :: kk)) cs w') ∧ SR ι h w n ι' ((pO o.dst).f v en) h' df' a' w' := by
  have hop := oper_opnds hok
  have hdn := oper_dst hok
  generalize hk : opK g o.op = kd at e
  cases kd with
  | plain x =>
    obtain ⟨e, rfl⟩ := e
    obtain ⟨ι', W, v', w', hs, hv, hL⟩ := plain_step (b := b) (cs := cs) (rest := rest) (kk := kk) hg p.wr p.env p.gi ho hop hw hk e (fun _ _ _ _ => trivial)
    have hle := hL.toExt.le p.wr.fresh
    exact ⟨ι', _, w', hs, put_env (p.env.mono hle) hdn hv, (by rw [put_defers]; exact p.dfr.mono hle), hL.wr p.wr, W, hL.toExt⟩
  | call f as =>
    obtain ⟨e, rfl⟩ := e
    obtain ⟨ι', W, v', w', hs, hv, hwr, hE⟩ := call_step (b := b) (cs := cs) (rest := rest) (kk := kk) p.cok p.wr p.env p.gi ho hop hw hk e
    have hle := hE.le p.wr.fresh
    exact ⟨ι', _, w', hs, put_env (p.env.mono hle) hdn hv, (by rw [put_defers]; exact p.dfr.mono hle), hwr, W, hE⟩
  | defer f as =>
    obtain ⟨hrd, rfl, rfl, g0, x, c0, hf, rfl⟩ := e
    have hx : ∃ c, o.op = .defer c ∧ c.callee = .value f ∧ as = c.args.toList := by
      cases hop' : o.op with
      | call c =>
        rw [hop'] at hk
        cases hc : c.callee with
        | builtin bb => cases bb <;> (simp only [opK, hc] at hk; cases hk)
        | _ => simp only [opK, hc] at hk; cases hk
      | defer c =>
        rw [hop'] at hk
        cases hc : c.callee with
        | value f0 => simp only [opK, hc] at hk; cases hk; exact ⟨c, rfl, hc, rfl⟩
        | _ => simp only [opK, hc] at hk; cases hk
      | _ => rw [hop'] at hk; cases hk
    obtain ⟨c, hoc, hcv, rfl⟩ := hx
    have hops : opndOk n f = true ∧ c.args.toList.all (opndOk n) = true := by
      rw [hoc] at hop
      have : (c.operands).toList.all (opndOk n) = true := hop
      unfold Call.operands at this
      rw [hcv] at this
      simpa using this
    have hvf := ev_ok p.env p.gi f hops.1
    have hva := opsL_ok p.env p.gi c.args.toList hops.2
    rw [hf] at hvf
    obtain ⟨xs, ys, hvf, hxs, hys⟩ := hvf
    have hro : b.roundOf = none := by
      rcases p.rd with ⟨_, h2⟩ | ⟨l, m, h1, _, _⟩
      · exact h2
      · rw [hrd] at h1; cases h1
    have hx : (execOp a.eval o).run P w = .ok (.defer { target := .fn (.func g0) ys, args := xs ++ c.args.map a.eval }) w := by
      unfold execOp; rw [hoc]
      dsimp only
      unfold resolve; rw [hcv]
      dsimp only
      rw [hvf]
      rfl
    refine ⟨ι, _, w, defer_op ho hw hro hx, put_env (a := { a with defers := _ :: a.defers }) p.env hdn ⟨#[], rfl, rfl⟩, ?_, p.wr, [], Ext.refl _ _ _ p.wr.fresh⟩
    rw [put_defers]
    refine ⟨ys, xs ++ c.args.map a.eval, a.defers, rfl, ?_, p.dfr⟩
    rw [Array.toList_append, Array.toList_map, List.append_assoc]
    exact lapp_ok hxs (lapp_ok hva hys)
  | recover =>
    obtain ⟨hrd, rfl, rfl, rfl⟩ := e
    have hx : ∃ c, o.op = .call c ∧ c.callee = .builtin .recover := by
      cases hop' : o.op with
      | call c =>
        rw [hop'] at hk
        cases hc : c.callee with
        | builtin bb => cases bb <;> first | exact ⟨c, rfl, hc⟩ | (simp only [opK, hc] at hk; cases hk)
        | _ => simp only [opK, hc] at hk; cases hk
      | defer c => rw [hop'] at hk; cases hc : c.callee <;> (simp only [opK, hc] at hk; cases hk)
      | _ => rw [hop'] at hk; cases hk
    obtain ⟨c, hoc, hcv⟩ := hx
    have hro : b.roundOf = none := by
      rcases p.rd with ⟨_, h2⟩ | ⟨l, m, h1, _, _⟩
      · exact h2
      · rw [hrd] at h1; cases h1
    have hx : (execOp a.eval o).run P w = .ok .recover w := by
      unfold execOp; rw [hoc]
      dsimp only
      unfold resolve; rw [hcv]
      rfl
    exact ⟨ι, _, w, recover_op ho hw hro p.calm hx, put_env p.env hdn rfl, (by rw [put_defers]; exact p.dfr), p.wr, [], Ext.refl _ _ _ p.wr.fresh⟩
theorem opStep_ok (hg : GOk P g) {ops : Array Oper} {i : Nat} {rest : List Nat} {o : Oper} (ho : ops[i]? = some o) (hok : operOk n ops.toList o = true) {ih : K} (hih : KOk P n ih (fun kk => .inRegion ops rest :: kk)) :
    KOk P n (opStep g ops.toList o ih) (fun kk => .inRegion ops (i :: rest) :: kk) := by
  intro cx ι en h df a w b cs p kk
  have body : Region.wanted o (yielded ops a.tmps) = true → Out P b n kk cs ι h w (lone (St b a (.inRegion ops (i :: rest) :: kk)) cs w) ((bodyK o.dst (opK g o.op) ih).k cx en h df) := fun hw => by
    rcases body_inv (cx := cx) (en := en) (h := h) (df := df) o.dst (opK g o.op) ih with e | ⟨v, h', df', e, hr⟩
    · rw [e]; trivial
    · rw [e]
      obtain ⟨ι', a', w', hs, s⟩ := op_step (rest := rest) (kk := kk) hg p ho hok hw hr
      exact Out.trans hs s (hih cx ι' _ h' df' a' w' b cs (p.next s) kk)
  unfold opStep
  cases hgd : o.guard with
  | none =>
    dsimp only
    exact body (by unfold Region.wanted; rw [hgd])
  | some jw =>
    obtain ⟨j, wn⟩ := jw
    dsimp only
    cases ht : dstAt ops.toList j with
    | none => trivial
    | some t =>
      obtain ⟨h1, h2⟩ := guard_ok hok p.env hgd ht
      show Out P b n kk cs ι h w _ (OB.rec (motive := fun _ => XR) .fail (ih.k cx ((pO o.dst).f (.tup .nil) en) h df) ((bodyK o.dst (opK g o.op) ih).k cx en h df) (gsel wn ((gT t).f en)))
      cases hs : gsel wn ((gT t).f en) with
      | none => trivial
      | f =>
        have hw := h2 hs
        have hstep : step P (lone (St b a (.inRegion ops (i :: rest) :: kk)) cs w) = .next (lone (St b (a.put ((ops[i]?).bind (·.dst)) undef) (.inRegion ops rest :: kk)) cs w) :=
          st_op_skip (by rw [ho]; exact hw)
        rw [ho] at hstep
        have s : SR ι h w n ι ((pO o.dst).f (.tup .nil) en) h df (a.put o.dst undef) w := ⟨put_env p.env (oper_dst hok) ⟨#[], rfl, rfl⟩, (by rw [put_defers]; exact p.dfr), p.wr, [], Ext.refl _ _ _ p.wr.fresh⟩
        exact Out.trans (.one hstep) s (hih cx ι _ h df _ w b cs (p.next s) kk)
      | t => exact body (h1 hs)
theorem kOps_ok (hg : GOk P g) {ops : Array Oper} (hok : ops.toList.all (operOk n ops.toList) = true) : ∀ (l : List Oper) (i : Nat), ops.toList.drop i = l → KOk P n (kOps g ops.toList l) (fun kk => .inRegion ops (List.range' i l.length) :: kk)
  | [], _, _ => KOk.pre (fun _ _ _ _ _ => st_region_end) kNorm_ok
  | o :: r, i, hl => by
    have hi : i < ops.toList.length := by
      rcases Nat.lt_or_ge i ops.toList.length with c | c
      · exact c
      · rw [List.drop_eq_nil_of_le c] at hl; cases hl
    rw [List.drop_eq_getElem_cons hi] at hl
    injection hl with h1 h2
    have ho : ops[i]? = some o := by rw [← Array.getElem?_toList, List.getElem?_eq_getElem hi, h1]
    have hoo : operOk n ops.toList o = true := List.all_eq_true.1 hok o (h1 ▸ List.getElem_mem hi)
    exact opStep_ok hg ho hoo (kOps_ok hg hok r (i + 1) h2)
theorem kRegion_ok (hg : GOk P g) {id : Nat} {ops : Array Oper} (hok : ops.toList.all (operOk n ops.toList) = true) : KOk P n (kRegion g ops.toList false) (fun kk => .code (.region id ops false) :: kk) := by
  refine KOk.pre (s := fun kk => .inRegion ops (List.range ops.size) :: kk) (fun _ _ _ _ _ => st_region) ?_
  have := kOps_ok (P := P) hg hok ops.toList 0 rfl
  rw [← List.range_eq_range', Array.length_toList] at this
  exact this
end
end Go.Proofs.YtofmmjfbmiinoabGreatDoor.Am
