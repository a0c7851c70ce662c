import Derived.Test.YtmnnmgfjlokmkaaGreatAbsSlimR
namespace Go.Abs
section
variable {P : Program} {A : Ann} {f nt : Nat} {E : Env} {bx : List Nat} {h : Heap} {Q : AX → Env → List Nat → Heap → Prop}
theorem slK_plain {ro : Bool} {op : Op} {k : SK} (hk : slK P A ro op = some k) : heapy k = false := by
 cases op with
 | slice t x lo hi mx => cases mx <;> simp only [slK] at hk <;> repeat' (first | (cases hk; done) | (cases hk; rfl) | (obtain ⟨_, _, rfl⟩ := omap hk; rfl) | (split at hk))
 | call c =>
  obtain ⟨callee, args, ts⟩ := c
  cases callee with
  | builtin b => cases b <;> simp only [slK] at hk <;> repeat' (first | (cases hk; done) | (cases hk; rfl) | (obtain ⟨_, _, rfl⟩ := omap hk; rfl) | (split at hk))
  | _ =>
   simp only [slK] at hk
   repeat' (first | (cases hk; done) | (cases hk; rfl) | (split at hk))
 | _ =>
  simp only [slK] at hk
  repeat' (first | (cases hk; done) | (cases hk; rfl) | (obtain ⟨_, _, rfl⟩ := omap hk; rfl) | (split at hk))
theorem getH {o : Oper} {k : SK} (e : k = slAll P A f o.dst o.op) (hk : heapy k = true) (hr : k ≠ .raw) : slH P A f o.dst (roAt A f o.dst) o.op = some k := by
 unfold slAll at e
 split at e
 ·rename_i k' hk'
  subst e
  rw [slK_plain hk'] at hk
  cases hk
 ·cases hh : slH P A f o.dst (roAt A f o.dst) o.op with
  | none => rw [hh] at e; exact absurd e hr
  | some k' => rw [hh] at e; simp at e; rw [e]
theorem slH_inv {dst : Option Tmp} {ro : Bool} {op : Op} {k : SK} (hh : slH P A f dst ro op = some k) : match k with
  | .hbox esc x => ∃ d t x0, dst = some d ∧ op = .box t x0 ∧ slX A x0 = some x ∧ ro = false ∧ A.esc f d = esc
  | .alc esc z => ∃ d t zz, dst = some d ∧ op = .alloc t ∧ zeroOf P t = some zz ∧ zz.cells = z ∧ z.all AV.one = true ∧ szOf P t = some z.length ∧ ro = false ∧ A.esc f d = esc
  | .st x y m => ∃ t a x0, op = .store t a x0 ∧ slX A a = some x ∧ slX A x0 = some y ∧ szOf P t = some m ∧ ro = false
  | .hbs z s n ps => ∃ t ps0 e zz, op = .buildSlice t n ps0 ∧ elemOfSlice P t = some e ∧ szOf P e = some s ∧ zeroOf P e = some zz ∧ (n * s ≤ 2 ^ 20 ∧ 0 < s ∧ zz.cells.length = s ∧ zz.cells.all AV.one) ∧ slParts A (fun i => some (i * s, s)) ps0.toList = some ps ∧ z = zerosA zz.cells (n * s) ∧ ro = false
  | .mks r z s b l c => ∃ t l0 c0 e zz, op = .makeSlice t l0 c0 ∧ slX A l0 = some l ∧ slX A c0 = some c ∧ elemOfSlice P t = some e ∧ szOf P e = some s ∧ bytesOf P e = some b ∧ zeroOf P e = some zz ∧ zz.cells = z ∧ 0 < s ∧ z.length = s ∧ z.all AV.one = true ∧ r = ro
  | .s2b r x => ∃ ty d x0 e, op = .convert ty d x0 ∧ slX A x0 = some x ∧ P.underlying ty = some .string ∧ P.underlying d = some (.slice e) ∧ isByteT P e = true ∧ r = ro
  | .cvs x => ∃ ty d x0 e0 e, op = .convert ty d x0 ∧ slX A x0 = some x ∧ P.underlying ty = some (.slice e0) ∧ P.underlying d = some (.slice e) ∧ (ty == d) = true ∧ isByteT P e = true ∧ ro = false
  | .sla x n lo hi s => ∃ t x0 lo0 hi0 e, op = .slice t x0 lo0 hi0 none ∧ P.underlying t = some (.array n e) ∧ szOf P e = some s ∧ slX A x0 = some x ∧ slOpt A lo0 = some lo ∧ slOpt A hi0 = some hi ∧ ro = false
  | .mkm => ∃ t kt et, op = .makeMap t none ∧ P.underlying t = some (.map kt et) ∧ ro = false
  | .lku q z x y ok => ∃ t x0 k0 kt et, op = .lookup t x0 k0 ok ∧ mkOf P kt = some q ∧ P.underlying t = some (.map kt et) ∧ zeroOf P et = some z ∧ slX A x0 = some x ∧ slX A k0 = some y ∧ ro = false
  | .mup q x y v => ∃ t x0 k0 v0 kt et, mkOf P kt = some q ∧ (op = .mapUpdate t x0 k0 v0 ∨ op = .insert t x0 k0 v0) ∧ P.underlying t = some (.map kt et) ∧ slX A x0 = some x ∧ slX A k0 = some y ∧ slX A v0 = some v ∧ ro = false
  | .app s b x y => ∃ x0 y0 t u args ts e zz, op = .call { callee := .builtin .append, args := args, argTypes := ts } ∧ args.toList = [x0, y0] ∧ ts.toList = [t, u] ∧ slX A x0 = some x ∧ slX A y0 = some y ∧ elemOfSlice P t = some e ∧ szOf P e = some s ∧ bytesOf P e = some b ∧ zeroOf P e = some zz ∧
    0 < s ∧ zz.cells.length = s ∧ zz.cells.all AV.one = true ∧ (∃ q, P.underlying u = some (.slice q)) ∧ ro = false
  | .apps s b x y => ∃ x0 y0 t u args ts e zz, op = .call { callee := .builtin .append, args := args, argTypes := ts } ∧ args.toList = [x0, y0] ∧ ts.toList = [t, u] ∧ slX A x0 = some x ∧ slX A y0 = some y ∧ elemOfSlice P t = some e ∧ szOf P e = some s ∧ bytesOf P e = some b ∧ zeroOf P e = some zz ∧
    0 < s ∧ zz.cells.length = s ∧ zz.cells.all AV.one = true ∧ P.underlying u = some .string ∧ ro = false
  | .appT s b x y => ∃ x0 y0 t u args ts e zz, op = .call { callee := .builtin .append, args := args, argTypes := ts } ∧ args.toList = [x0, y0] ∧ ts.toList = [t, u] ∧ slX A x0 = some x ∧ slX A y0 = some y ∧ elemOfSlice P t = some e ∧ szOf P e = some s ∧ bytesOf P e = some b ∧ zeroOf P e = some zz ∧
    0 < s ∧ zz.cells.length = s ∧ zz.cells.all AV.one = true ∧ (∃ q, P.underlying u = some (.slice q)) ∧ ro = true
  | .appsT s b x y => ∃ x0 y0 t u args ts e zz, op = .call { callee := .builtin .append, args := args, argTypes := ts } ∧ args.toList = [x0, y0] ∧ ts.toList = [t, u] ∧ slX A x0 = some x ∧ slX A y0 = some y ∧ elemOfSlice P t = some e ∧ szOf P e = some s ∧ bytesOf P e = some b ∧ zeroOf P e = some zz ∧
    0 < s ∧ zz.cells.length = s ∧ zz.cells.all AV.one = true ∧ P.underlying u = some .string ∧ ro = true
  | .appz s b z x y => ∃ x0 y0 t u args ts e zz, op = .call { callee := .builtin .append, args := args, argTypes := ts } ∧ args.toList = [x0, y0] ∧ ts.toList = [t, u] ∧ slX A x0 = some x ∧ slX A y0 = some y ∧ elemOfSlice P t = some e ∧ szOf P e = some s ∧ bytesOf P e = some b ∧ zeroOf P e = some zz ∧ zz.cells = z ∧
    0 < s ∧ z.length = s ∧ z.all AV.one = true ∧ (∃ q, P.underlying u = some (.int q)) ∧ ro = false
  | .cpy s x y => ∃ x0 y0 t tr args ts e, op = .call { callee := .builtin .copy, args := args, argTypes := ts } ∧ args.toList = [x0, y0] ∧ ts.toList = t :: tr ∧ slX A x0 = some x ∧ slX A y0 = some y ∧ elemOfSlice P t = some e ∧ szOf P e = some s ∧ ro = false
  | .clr s z x => ∃ x0 t tr args ts e zz, op = .call { callee := .builtin .clear, args := args, argTypes := ts } ∧ args.toList = [x0] ∧ ts.toList = t :: tr ∧ slX A x0 = some x ∧ elemOfSlice P t = some e ∧ szOf P e = some s ∧ zeroOf P e = some zz ∧ zz.cells = z ∧ 0 < s ∧ z.length = s ∧ ro = false
  | _ => True := by
 have ei : ∀ {t s b z}, elemInfo P t = some (s, b, z) → ∃ e zz, elemOfSlice P t = some e ∧ szOf P e = some s ∧ bytesOf P e = some b ∧ zeroOf P e = some zz ∧ zz.cells = z ∧ 0 < s ∧ z.length = s ∧ z.all AV.one = true := by
  intro t s b z hi
  unfold elemInfo at hi
  split at hi
  ·rename_i e he
   split at hi
   ·rename_i s' b' z' q1 q2 q3
    split at hi
    ·rename_i hc
     simp only [Option.some.injEq, Prod.mk.injEq] at hi
     obtain ⟨rfl, rfl, rfl⟩ := hi
     exact ⟨e, z', he, q1, q2, q3, rfl, hc.1, hc.2.1, hc.2.2⟩
    ·cases hi
   ·cases hi
  ·cases hi
 cases op with
 | box t x0 =>
  simp only [slH] at hh
  split at hh
  ·cases hh
  ·rename_i hro
   split at hh
   ·obtain ⟨y, hy, rfl⟩ := omap hh
    exact ⟨_, t, x0, rfl, rfl, hy, by simpa using hro, rfl⟩
   ·cases hh
 | alloc t =>
  simp only [slH] at hh
  split at hh
  ·cases hh
  ·rename_i hro
   split at hh
   ·rename_i z hz _
    split at hh
    ·rename_i hc
     simp only [Option.some.injEq] at hh
     subst hh
     exact ⟨_, t, z, rfl, rfl, hz, rfl, hc.1, hc.2, by simpa using hro, rfl⟩
    ·cases hh
   ·cases hh
 | store t a x0 =>
  simp only [slH] at hh
  split at hh
  ·cases hh
  ·rename_i hro
   split at hh
   ·rename_i a' x' n' q1 q2 q3
    simp only [Option.some.injEq] at hh
    subst hh
    exact ⟨t, a, x0, rfl, q1, q2, q3, by simpa using hro⟩
   ·cases hh
 | buildSlice t n ps0 =>
  simp only [slH] at hh
  split at hh
  ·cases hh
  ·rename_i hro
   split at hh
   ·rename_i e he
    split at hh
    ·rename_i s z q1 q2
     split at hh
     ·rename_i hc
      obtain ⟨l, hl, rfl⟩ := omap hh
      exact ⟨t, ps0, e, z, rfl, he, q1, q2, hc, hl, rfl, by simpa using hro⟩
     ·cases hh
    ·cases hh
   ·cases hh
 | makeSlice t l0 c0 =>
  simp only [slH] at hh
  split at hh
  ·rename_i l c s b z q1 q2 q3
   simp only [Option.some.injEq] at hh
   subst hh
   obtain ⟨e, zz, w⟩ := ei q3
   exact ⟨t, l0, c0, e, zz, rfl, q1, q2, w.1, w.2.1, w.2.2.1, w.2.2.2.1, w.2.2.2.2.1, w.2.2.2.2.2.1, w.2.2.2.2.2.2.1, w.2.2.2.2.2.2.2, rfl⟩
  ·cases hh
 | convert ty d x0 =>
  simp only [slH] at hh
  split at hh
  ·rename_i y e q1 q2 q3
   split at hh
   ·rename_i q4
    simp only [Option.some.injEq] at hh
    subst hh
    exact ⟨ty, d, x0, e, rfl, q1, q2, q3, q4, rfl⟩
   ·cases hh
  ·rename_i y e0 e q1 q2 q3
   split at hh
   ·rename_i q4
    simp only [Option.some.injEq] at hh
    subst hh
    exact ⟨ty, d, x0, e0, e, rfl, q1, q2, q3, q4.1, q4.2.1, q4.2.2⟩
   ·cases hh
  ·cases hh
 | slice t x0 lo0 hi0 mx =>
  cases mx with
  | some m => simp [slH] at hh
  | none =>
   simp only [slH] at hh
   split at hh
   ·cases hh
   ·rename_i hro
    split at hh
    ·rename_i x lo hi n e q1 q2 q3 q4
     obtain ⟨s, hs, rfl⟩ := omap hh
     exact ⟨t, x0, lo0, hi0, e, rfl, q4, hs, q1, q2, q3, by simpa using hro⟩
    ·cases hh
 | makeMap t r =>
  cases r with
  | none =>
   simp only [slH] at hh
   split at hh
   ·cases hh
   ·rename_i hro
    split at hh
    ·rename_i kt et q1
     simp only [Option.some.injEq] at hh
     subst hh
     exact ⟨t, kt, et, rfl, q1, by simpa using hro⟩
    ·cases hh
  | some r => simp [slH] at hh
 | lookup t x0 k0 ok =>
  simp only [slH] at hh
  split at hh
  ·cases hh
  ·rename_i hro
   split at hh
   ·rename_i kt et q1
    split at hh
    ·rename_i q z x y q5 q2 q3 q4
     simp only [Option.some.injEq] at hh
     subst hh
     exact ⟨t, x0, k0, kt, et, rfl, q5, q1, q2, q3, q4, by simpa using hro⟩
    ·cases hh
   ·cases hh
 | mapUpdate t x0 k0 v0 =>
  simp only [slH] at hh
  split at hh
  ·cases hh
  ·rename_i hro
   split at hh
   ·rename_i kt et q1
    split at hh
    ·rename_i q x y v q5 q2 q3 q4
     simp only [Option.some.injEq] at hh
     subst hh
     exact ⟨t, x0, k0, v0, kt, et, q5, .inl rfl, q1, q2, q3, q4, by simpa using hro⟩
    ·cases hh
   ·cases hh
 | insert t x0 k0 v0 =>
  simp only [slH] at hh
  split at hh
  ·cases hh
  ·rename_i hro
   split at hh
   ·rename_i kt et q1
    split at hh
    ·rename_i q x y v q5 q2 q3 q4
     simp only [Option.some.injEq] at hh
     subst hh
     exact ⟨t, x0, k0, v0, kt, et, q5, .inr rfl, q1, q2, q3, q4, by simpa using hro⟩
    ·cases hh
   ·cases hh
 | call c =>
  obtain ⟨callee, args, ts⟩ := c
  cases callee with
  | builtin b =>
   cases b with
   | append =>
    simp only [slH] at hh
    split at hh
    ·rename_i x0 y0 t u q1 q2
     split at hh
     ·rename_i x y s b z e' q3 q4 q5 q6
      obtain ⟨e, zz, w⟩ := ei q5
      obtain ⟨w1, w2, w3, w4, rfl, w6, w7, w8⟩ := w
      cases ro with
      | false =>
       simp only [Bool.false_eq_true, if_false, Option.some.injEq] at hh
       subst hh
       exact ⟨x0, y0, t, u, args, ts, e, zz, rfl, q1, q2, q3, q4, w1, w2, w3, w4, w6, w7, w8, ⟨_, q6⟩, rfl⟩
      | true =>
       simp only [if_true, Option.some.injEq] at hh
       subst hh
       exact ⟨x0, y0, t, u, args, ts, e, zz, rfl, q1, q2, q3, q4, w1, w2, w3, w4, w6, w7, w8, ⟨_, q6⟩, rfl⟩
     ·rename_i x y s b z q3 q4 q5 q6
      obtain ⟨e, zz, w⟩ := ei q5
      obtain ⟨w1, w2, w3, w4, rfl, w6, w7, w8⟩ := w
      cases ro with
      | false =>
       simp only [Bool.false_eq_true, if_false, Option.some.injEq] at hh
       subst hh
       exact ⟨x0, y0, t, u, args, ts, e, zz, rfl, q1, q2, q3, q4, w1, w2, w3, w4, w6, w7, w8, q6, rfl⟩
      | true =>
       simp only [if_true, Option.some.injEq] at hh
       subst hh
       exact ⟨x0, y0, t, u, args, ts, e, zz, rfl, q1, q2, q3, q4, w1, w2, w3, w4, w6, w7, w8, q6, rfl⟩
     ·rename_i x y s b z qk q3 q4 q5 q6
      obtain ⟨e, zz, w⟩ := ei q5
      obtain ⟨w1, w2, w3, w4, w5, w6, w7, w8⟩ := w
      cases ro with
      | false =>
       simp only [Bool.false_eq_true, if_false, Option.some.injEq] at hh
       subst hh
       exact ⟨x0, y0, t, u, args, ts, e, zz, rfl, q1, q2, q3, q4, w1, w2, w3, w4, w5, w6, w7, w8, ⟨_, q6⟩, rfl⟩
      | true => simp at hh
     ·cases hh
    ·cases hh
   | copy =>
    simp only [slH] at hh
    split at hh
    ·cases hh
    ·rename_i hro
     split at hh
     ·rename_i x0 y0 t tr q1 q2
      split at hh
      ·rename_i x y s b z q3 q4 q5
       simp only [Option.some.injEq] at hh
       subst hh
       obtain ⟨e, zz, w⟩ := ei q5
       exact ⟨x0, y0, t, tr, args, ts, e, rfl, q1, q2, q3, q4, w.1, w.2.1, by simpa using hro⟩
      ·cases hh
     ·cases hh
   | clear =>
    simp only [slH] at hh
    split at hh
    ·cases hh
    ·rename_i hro
     split at hh
     ·rename_i x0 t tr q1 q2
      split at hh
      ·rename_i x s b z q3 q5
       simp only [Option.some.injEq] at hh
       subst hh
       obtain ⟨e, zz, w1, w2, w3, w4, w5, w6, w7, w8⟩ := ei q5
       exact ⟨x0, t, tr, args, ts, e, zz, rfl, q1, q2, q3, w1, w2, w4, w5, w6, w7, by simpa using hro⟩
      ·cases hh
     ·cases hh
   | _ => simp [slH] at hh
  | _ => simp [slH] at hh
 | _ => simp [slH] at hh
def putRg (dst : Option Nat) (v : AV) (rg : Nat → AV) : Nat → AV := match dst with
 | some d => upd rg d v
 | none => rg
def putE (dst : Option Nat) (v : AV) (E : Env) : Env := match dst with
 | some d => (d, v) :: E
 | none => E
theorem o_heap {h0 : Heap} {q : Nat} {dst : Option Nat} {k : SK} {r : List SO} {Q1 : AV → Heap → Prop}
  (step : ∀ (o : Oper) rg, o.dst = dst → k = slAll P A f o.dst o.op → Sat (lk E) rg → HOp P A f h0 q o rg h Q1)
  (next : ∀ v h1 (o : Oper) rg, o.dst = dst → k = slAll P A f o.dst o.op → Q1 v h1 → ∃ bx', putA A f nt o v ⟨rg, bx⟩ = some ⟨putRg dst v rg, bx'⟩ ∧ SOps P A f nt h0 (q - 1) r (putE dst v E) bx' h1 Q) :
  SOps P A f nt h0 q (⟨dst, none, k⟩ :: r) E bx h Q := by
 intro ops l0 rg hl hs
 obtain ⟨o0, r0, rfl, h1, h2⟩ := slOs_cons hl
 obtain ⟨e1, e2, e3⟩ := slO_some h1
 have hg : o0.guard = none := by
  rcases e3 with ⟨e, _⟩ | ⟨_, _, _, _, e, _⟩
  ·exact e
  ·cases e
 refine ops_h (by unfold wantedA; rw [hg]) ?_
 intro n hn
 obtain ⟨kk, v, h', n', lg, q1, qq, q2⟩ := step o0 rg e1.symm e2 hs n hn
 obtain ⟨bx', p1, p2⟩ := next v h' o0 rg e1.symm e2 q2
 refine ⟨kk, v, h', n', lg, q1, qq, _, p1, ?_⟩
 cases dst with
 | none => exact p2 ops r0 rg h2 hs
 | some d => exact p2 ops r0 _ h2 (hs.put d v)
theorem hop_of {h0 : Heap} {q : Nat} {o : Oper} {rg : Nat → AV} {Q1 : AV → Heap → Prop} (hnc : NC o.op) (hro : roAt A f o.dst = false)
  (H : ∀ n, Fresh h n → ∃ v h' n' lg, opM P (evalA A rg) o.op h n = some (v, h', n', lg) ∧ Quiet h0 q lg ∧ Q1 v h') : HOp P A f h0 q o rg h Q1 := by
 intro n hn
 obtain ⟨v, h', n', lg, e, q⟩ := H n hn
 refine ⟨0, v, h', n', lg, ?_, q⟩
 have : opV (callN P A 0) P A f o rg = opM P (evalA A rg) o.op := by
  unfold opV
  split
  ·rename_i ho
   exact absurd ho (hnc.1 _ _ _)
  ·rename_i ho
   exact absurd ho (hnc.2 _ _ _ _)
  ·rw [hro]
   simp only [Bool.false_eq_true, if_false]
 rw [this]
 exact e
theorem quiet_nil {h0 : Heap} {q : Nat} : Quiet h0 q ([], []) := fun _ => ⟨rfl, by simp⟩
theorem quiet_zero {h0 : Heap} {lg : Log} : Quiet h0 0 lg := fun h => absurd h (by omega)
theorem put_nb {o : Oper} {dst : Option Nat} {v : AV} {rg : Nat → AV} (hd : o.dst = dst) (hok : dstOk' nt dst = true) (hb : isBox o.op = false) : putA A f nt o v ⟨rg, bx⟩ = some ⟨putRg dst v rg, bx⟩ := by
 unfold putA
 rw [hd]
 cases dst with
 | none => rfl
 | some d =>
  simp only [dstOk', decide_eq_true_eq] at hok
  simp [hok, hb, putRg]
theorem put_bx {o : Oper} {d i j : Nat} {rg : Nat → AV} (hd : o.dst = some d) (hlt : (decide (d < nt)) = true) (hb : isBox o.op = true) : putA A f nt o (.ptr i j) ⟨rg, bx⟩ = some ⟨putRg (some d) (.ptr i j) rg, if A.esc f d then bx else i :: bx⟩ := by
 unfold putA
 rw [hd]
 simp only [decide_eq_true_eq] at hlt
 simp only [hlt, if_true, hb, Bool.true_and, putRg]
 cases A.esc f d <;> simp
variable {h0 : Heap} {q : Nat}
theorem o_hbox {d : Nat} {esc : Bool} {x : SX} {r : List SO} {v : AV} (hlt : (decide (d < nt)) = true) (hx : ev (lk E) x = some v) (ho : v.cells.all AV.one = true)
  (H : ∀ i, h i = none → SOps P A f nt h0 (q - 1) r ((d, .ptr i 0) :: E) (if esc then bx else i :: bx) (upd h i (some (.cells v.cells))) Q) : SOps P A f nt h0 q (⟨some d, none, .hbox esc x⟩ :: r) E bx h Q := by
 refine o_heap (Q1 := fun w h1 => ∃ i, h i = none ∧ w = .ptr i 0 ∧ h1 = upd h i (some (.cells v.cells))) ?_ ?_
 ·intro o rg hd e hs
  obtain ⟨d', t, x0, _, hop, hx0, hro, _⟩ := slH_inv (getH e rfl (by simp))
  refine hop_of (by simp [NC, hop]) hro (fun n hn => ?_)
  refine ⟨.ptr n 0, upd h n (some (.cells v.cells)), n + 1, ([], []), ?_, quiet_nil, n, hn n (Nat.le_refl _), rfl, rfl⟩
  rw [hop]
  simp only [opM, ev_sound hs hx0 hx, lift_some_eq, pure_bind, ho, if_true]
  rfl
 ·rintro w h1 o rg hd e ⟨i, hi, rfl, rfl⟩
  obtain ⟨d', t, x0, hd', hop, hx0, hro, hesc⟩ := slH_inv (getH e rfl (by simp))
  rw [hd] at hd'
  cases hd'
  refine ⟨if esc then bx else i :: bx, ?_, H i hi⟩
  rw [put_bx hd hlt (by rw [hop]; rfl), hesc]
theorem o_alc {d : Nat} {esc : Bool} {z : List AV} {r : List SO} (hlt : (decide (d < nt)) = true)
  (H : ∀ i, h i = none → SOps P A f nt h0 (q - 1) r ((d, .ptr i 0) :: E) (if esc then bx else i :: bx) (upd h i (some (.cells z))) Q) : SOps P A f nt h0 q (⟨some d, none, .alc esc z⟩ :: r) E bx h Q := by
 refine o_heap (Q1 := fun w h1 => ∃ i, h i = none ∧ w = .ptr i 0 ∧ h1 = upd h i (some (.cells z))) ?_ ?_
 ·intro o rg hd e hs
  obtain ⟨d', t, zz, _, hop, hz, rfl, ho, hsz, hro, _⟩ := slH_inv (getH e rfl (by simp))
  refine hop_of (by simp [NC, hop]) hro (fun n hn => ?_)
  refine ⟨.ptr n 0, upd h n (some (.cells zz.cells)), n + 1, ([], []), ?_, quiet_nil, n, hn n (Nat.le_refl _), rfl, rfl⟩
  rw [hop]
  simp only [opM, hz, lift_some_eq, pure_bind]
  rw [if_pos ⟨ho, hsz⟩]
  rfl
 ·rintro w h1 o rg hd e ⟨i, hi, rfl, rfl⟩
  obtain ⟨d', t, zz, hd', hop, hz, _, ho, hsz, hro, hesc⟩ := slH_inv (getH e rfl (by simp))
  rw [hd] at hd'
  cases hd'
  refine ⟨if esc then bx else i :: bx, ?_, H i hi⟩
  rw [put_bx hd hlt (by rw [hop]; rfl), hesc]
theorem o_st {dst : Option Nat} {x y : SX} {m : Nat} {r : List SO} {id off : Nat} {v : AV} {cs cs' : List AV} (hq : q = 0) (hd : dstOk' nt dst = true) (hx : ev (lk E) x = some (.ptr id off)) (hy : ev (lk E) y = some v) (hm : v.cells.length = m) (ho : v.cells.all AV.one = true)
  (hid : h id = some (.cells cs)) (hs' : spliceL cs off v.cells = some cs') (H : SOps P A f nt h0 0 r (undefE dst E) bx (upd h id (some (.cells cs'))) Q) : SOps P A f nt h0 q (⟨dst, none, .st x y m⟩ :: r) E bx h Q := by
 subst hq
 refine o_heap (Q1 := fun w h1 => w = .undef ∧ h1 = upd h id (some (.cells cs'))) ?_ ?_
 ·intro o rg hdd e hs
  obtain ⟨t, a, x0, hop, q1, q2, q3, hro⟩ := slH_inv (getH e rfl (by simp))
  refine hop_of (by simp [NC, hop]) hro (fun n hn => ?_)
  refine ⟨.undef, upd h id (some (.cells cs')), n, ([id], [id]), ?_, quiet_zero, rfl, rfl⟩
  rw [hop]
  simp only [opM, ev_sound hs q1 hx, ev_sound hs q2 hy, lift_some_eq, pure_bind, storeT, q3, hm, if_true, storeAtA]
  simp only [AM.bind, AM.get, AM.set, AM.pure, AM.lift, hid, ho, if_true, hs']
  rfl
 ·rintro w h1 o rg hdd e ⟨rfl, rfl⟩
  obtain ⟨t, a, x0, hop, q1, q2, q3, hro⟩ := slH_inv (getH e rfl (by simp))
  refine ⟨bx, put_nb hdd hd (by rw [hop]; rfl), ?_⟩
  cases dst <;> exact H
theorem o_hbs {d : Nat} {z cs : List AV} {s n : Nat} {ps : List (Nat × Nat × SX)} {r : List SO} (hlt : (decide (d < nt)) = true) (hf : fillS (lk E) z ps = some cs) (ho : cs.all AV.one = true)
  (H : ∀ i, h i = none → SOps P A f nt h0 (q - 1) r ((d, .sl i 0 n s) :: E) bx (upd h i (some (.cells cs))) Q) : SOps P A f nt h0 q (⟨some d, none, .hbs z s n ps⟩ :: r) E bx h Q := by
 refine o_heap (Q1 := fun w h1 => ∃ i, h i = none ∧ w = .sl i 0 n s ∧ h1 = upd h i (some (.cells cs))) ?_ ?_
 ·intro o rg hd e hs
  obtain ⟨t, ps0, e', zz, hop, q1, q2, q3, q4, q5, rfl, hro⟩ := slH_inv (getH e rfl (by simp))
  refine hop_of (by simp [NC, hop]) hro (fun n' hn => ?_)
  refine ⟨.sl n' 0 n s, upd h n' (some (.cells cs)), n' + 1, ([], []), ?_, quiet_nil, n', hn n' (Nat.le_refl _), rfl, rfl⟩
  obtain ⟨vs, e1, e2⟩ := fillS_sound hs q5 hf
  rw [hop]
  simp only [opM, e1, lift_some_eq, pure_bind, buildSliceA, q1, q2, q3]
  rw [if_pos q4]
  simp only [e2, lift_some_eq, pure_bind, ho, if_true]
  rfl
 ·rintro w h1 o rg hd e ⟨i, hi, rfl, rfl⟩
  obtain ⟨t, ps0, e', zz, hop, q1, q2, q3, q4, q5, _, hro⟩ := slH_inv (getH e rfl (by simp))
  exact ⟨bx, put_nb hd (by simpa [dstOk'] using hlt) (by rw [hop]; rfl), H i hi⟩
end
section
variable {P : Program} {A : Ann} {f nt : Nat} {E : Env} {bx : List Nat} {h : Heap} {Q : AX → Env → List Nat → Heap → Prop}
theorem load_inv {x : SX} {m : Option Nat} {o : Oper} (e : SK.ld x m = slAll P A f o.dst o.op) : ∃ t x0, o.op = .load t x0 ∧ slX A x0 = some x ∧ cellsN P t = some m ∧ roAt A f o.dst = false := by
 have hk := getD_raw e rfl
 generalize hop : o.op = op at hk
 cases op with
 | load t x0 =>
  simp only [slK] at hk
  split at hk
  ·cases hk
  ·rename_i hro
   split at hk
   ·rename_i y n h1 h2
    simp only [Option.some.injEq, SK.ld.injEq] at hk
    obtain ⟨rfl, rfl⟩ := hk
    exact ⟨t, x0, rfl, h1, h2, by simpa using hro⟩
   ·cases hk
 | slice t x lo hi mx => exfalso; cases mx <;> simp only [slK] at hk <;> repeat' (first | (cases hk; done) | (obtain ⟨_, _, h⟩ := omap hk; cases h; done) | (split at hk))
 | call c =>
  exfalso
  obtain ⟨callee, args, ts⟩ := c
  cases callee with
  | builtin b => cases b <;> simp only [slK] at hk <;> repeat' (first | (cases hk; done) | (obtain ⟨_, _, h⟩ := omap hk; cases h; done) | (split at hk))
  | _ =>
   simp only [slK] at hk
   repeat' (first | (cases hk; done) | (split at hk))
 | _ =>
  exfalso
  simp only [slK] at hk
  repeat' (first | (cases hk; done) | (obtain ⟨_, _, h⟩ := omap hk; cases h; done) | (split at hk))
theorem o_ldh {h0 : Heap} {q : Nat} {d : Nat} {x : SX} {r : List SO} {id off : Nat} {cs : List AV} {v : AV} (hlt : (decide (d < nt)) = true) (hx : ev (lk E) x = some (.ptr id off)) (hid : h id = some (.cells cs)) (h0id : 0 < q → h0 id ≠ none) (hv : cs[off]? = some v)
  (H : SOps P A f nt h0 (q - 1) r ((d, v) :: E) bx h Q) : SOps P A f nt h0 q (⟨some d, none, .ld x none⟩ :: r) E bx h Q := by
 intro ops l0 rg hl hs
 obtain ⟨o0, r0, rfl, h1, h2⟩ := slOs_cons hl
 obtain ⟨e1, e2, e3⟩ := slO_some h1
 obtain ⟨t, x0, hop, q1, q2, hro⟩ := load_inv e2
 have hg : o0.guard = none := by
  rcases e3 with ⟨e, _⟩ | ⟨_, _, _, _, e, _⟩
  ·exact e
  ·cases e
 have hsl : sliceL cs off 1 = some [v] := by
  have hlt := (List.getElem?_eq_some_iff.1 hv).1
  unfold sliceL
  rw [if_pos (by omega)]
  congr 1
  rw [List.drop_eq_getElem_cons hlt, (List.getElem?_eq_some_iff.1 hv).2]
  rfl
 rcases cellsN_some q2 with ⟨m, e, _, _⟩ | ⟨_, g1, m, g2⟩
 ·cases e
 ·refine ops_rd (by unfold wantedA; rw [hg]) (rd_load h0id hop hro (ev_sound hs q1 hx) hid g1 g2 (by simpa using hsl) rfl) (put_plain e1.symm (by simpa using hlt) (fun hb => by rw [hop] at hb; simp [isBox] at hb)) (H ops r0 _ h2 (hs.put d v))
theorem o_ldhn {h0 : Heap} {q : Nat} {d m : Nat} {x : SX} {r : List SO} {id off : Nat} {cs l : List AV} (hlt : (decide (d < nt)) = true) (hx : ev (lk E) x = some (.ptr id off)) (hid : h id = some (.cells cs)) (h0id : 0 < q → h0 id ≠ none) (hv : sliceL cs off m = some l)
  (H : SOps P A f nt h0 (q - 1) r ((d, .agg l) :: E) bx h Q) : SOps P A f nt h0 q (⟨some d, none, .ld x (some m)⟩ :: r) E bx h Q := by
 intro ops l0 rg hl hs
 obtain ⟨o0, r0, rfl, h1, h2⟩ := slOs_cons hl
 obtain ⟨e1, e2, e3⟩ := slO_some h1
 obtain ⟨t, x0, hop, q1, q2, hro⟩ := load_inv e2
 have hg : o0.guard = none := by
  rcases e3 with ⟨e, _⟩ | ⟨_, _, _, _, e, _⟩
  ·exact e
  ·cases e
 rcases cellsN_some q2 with ⟨m', e, g1, g2⟩ | ⟨e, _⟩
 ·cases e
  refine ops_rd (by unfold wantedA; rw [hg]) (rd_load h0id hop hro (ev_sound hs q1 hx) hid g1 g2 (by simpa using hv) rfl) (put_plain e1.symm (by simpa using hlt) (fun hb => by rw [hop] at hb; simp [isBox] at hb)) (H ops r0 _ h2 (hs.put d _))
 ·cases e
end
end Go.Abs
