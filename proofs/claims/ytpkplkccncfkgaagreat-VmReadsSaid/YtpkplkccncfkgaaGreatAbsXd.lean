/- Calls whose answers are given from outside (a remainder of an unknown number). -/
import Derived.Test.YtpkplkccncfkgaaGreatAbsXc
namespace Go.Abs
noncomputable section
def dN : D8 → Nat := D8.rec (motive := fun _ => Nat) 0 1 2 3 4 5 6 7
def d4N : D4 → Nat := D4.rec (motive := fun _ => Nat) (fun a b c d => 512 * dN a + 64 * dN b + 8 * dN c + dN d) 4096 4097
theorem dN_dg (d : Nat) (h : d < 8) : dN (dg d) = d := by
  obtain rfl | rfl | rfl | rfl | rfl | rfl | rfl | rfl : d = 0 ∨ d = 1 ∨ d = 2 ∨ d = 3 ∨ d = 4 ∨ d = 5 ∨ d = 6 ∨ d = 7 := by omega
  all_goals rfl
theorem d4N_to {g : Nat} (h : d4N (toD4 g) ≤ 4095) : d4N (toD4 g) = g := by
  unfold toD4 at h ⊢
  cases hg : Nat.ble g 4095 with
  | false => rw [hg] at h; exact absurd h (by show ¬ 4096 ≤ 4095; omega)
  | true =>
    have hle : g ≤ 4095 := Nat.le_of_ble_eq_true hg
    show 512 * dN (dg (g / 512)) + 64 * dN (dg (g / 64 % 8)) + 8 * dN (dg (g / 8 % 8)) + dN (dg (g % 8)) = g
    rw [dN_dg _ (by omega), dN_dg _ (by omega), dN_dg _ (by omega), dN_dg _ (by omega)]
    omega

abbrev OA := List AV → ZK
/- an answer for just those arguments that are told by T -/
def orP (T : List AV → Bool) (v : AV) : OA := fun vs s K => Bool.rec (motive := fun _ => RT) none (K v s) (T vs)
/- calls of g go to o -/
def orC (g : Nat) (o : OA) (cl : CL) : CL := fun q vs s K => Bool.rec (motive := fun _ => RT) (cl q vs s K) (o vs s K) (Nat.beq (d4N q) g)
/- by the last one of two arguments -/
def snd0 : List AV → AV := List.rec (motive := fun _ => AV) .undef fun _ l _ => List.rec (motive := fun _ => AV) .undef (fun b _ _ => b) l
def orK (k : Nat) (o o' : OA) : OA := fun vs s K => asInt (snd0 vs) fun _ i => Bool.rec (motive := fun _ => RT) (o' vs s K) (o vs s K) (Int.rec (motive := fun _ => Bool) (fun n => Nat.beq n k) (fun _ => false) i)

variable {P : Program} {A : Ann}
def OAok (P : Program) (A : Ann) (g : Nat) (o : OA) : Prop := ∀ vs s K (r : AV), o vs s K = some r → ∃ v, A.pure g = true ∧ AV.trees vs = true ∧ PureC P A g vs v ∧ K v s = some r
theorem orP_ok {g : Nat} {a : List AV} {v : AV} {T : List AV → Bool} (hT : ∀ vs, T vs = true → vs = a) (hp : A.pure g = true) (ht : AV.trees a = true) (h : PureC P A g a v) : OAok P A g (orP T v) := by
  intro vs s K r x
  replace x := br_t x
  obtain ⟨hv, x⟩ := x
  cases hT _ hv
  exact ⟨v, hp, ht, h, x⟩
theorem orK_ok {g k : Nat} {o o' : OA} (h : OAok P A g o) (h' : OAok P A g o') : OAok P A g (orK k o o') := by
  intro vs s K r x
  unfold orK at x
  obtain ⟨_, i, _, x⟩ := asInt_el x
  rcases br_b x with ⟨_, x⟩ | ⟨_, x⟩
  · exact h' _ _ _ _ x
  · exact h _ _ _ _ x

theorem orC_ok {g : Nat} {o : OA} {cl : CL} (hg : g ≤ 4095) (ho : OAok P A g o) (hc : CLok P A cl) : CLok P A (orC g o cl) := by
  refine ⟨?_, fun r vs s K x => ?_⟩
  rotate_left
  · replace x := br_b x
    rcases x with ⟨_, x⟩ | ⟨hb, _⟩
    · exact hc.2 _ _ _ _ x
    · have : 4097 = g := Nat.eq_of_beq_eq_true hb
      omega
  intro r g' vs s K h n hr x
  replace x := br_b x
  rcases x with ⟨_, x⟩ | ⟨hb, x⟩
  · exact hc.1 _ _ _ _ _ _ _ hr x
  · clear hc
    have hb := Nat.eq_of_beq_eq_true hb
    have : g' = g := by
      have := d4N_to (g := g') (by omega)
      omega
    subst this
    obtain ⟨v, p1, p2, p3, x⟩ := ho _ _ _ _ x
    obtain ⟨k0, n0, hv⟩ := p3 h n hr.fresh
    refine ⟨v, h, n, ([], []), s, ⟨k0, fun k hk => ?_⟩, Nx.refl hr, x⟩
    cases k0 with
    | zero => cases hv
    | succ k1 =>
      have hn : n0 = n := by
        unfold callN at hv
        rw [if_pos (by rw [p1, p2]; rfl)] at hv
        exact (alone_some hv).2.1
      subst hn
      exact le_callN hk g' vs _ _ _ hv

/- the remainder of what stands in the register t is asked of o -/
def thd0 : List AV → AV := List.rec (motive := fun _ => AV) .undef fun _ l _ => List.rec (motive := fun _ => AV) .undef (fun _ l _ => List.rec (motive := fun _ => AV) .undef (fun c _ _ => c) l) l
def orR (t : Nat) (o : OA) (cl : CL) : CL := fun q vs s K => D4.rec (motive := fun _ => RT) (fun _ _ _ _ => cl q vs s K) (cl q vs s K) (asInt (thd0 vs) fun _ i => Bool.rec (motive := fun _ => RT) (cl q vs s K) (o vs s K) (Int.rec (motive := fun _ => Bool) (fun n => Nat.beq n t) (fun _ => false) i)) q
def ORok (o : OA) : Prop := ∀ vs s K (r : AV), o vs s K = some r → remV vs (fun v => K v s) = some r
theorem orR_ok {t : Nat} {o : OA} {cl : CL} (ho : ORok o) (hc : CLok P A cl) : CLok P A (orR t o cl) := by
  refine ⟨fun r g vs s K h n hr x => hc.1 _ _ _ _ _ _ _ hr ?_, fun r vs s K x => ?_⟩
  · unfold orR toD4 at x
    unfold toD4
    cases hb : Nat.ble g 4095 <;> (rw [hb] at x; exact x)
  · replace x : asInt (thd0 vs) (fun _ i => Bool.rec (motive := fun _ => RT) (cl .rem vs s K) (o vs s K) (Int.rec (motive := fun _ => Bool) (fun n => Nat.beq n t) (fun _ => false) i)) = some r := x
    obtain ⟨_, i, _, x⟩ := asInt_el x
    replace x := br_b x
    rcases x with ⟨_, x⟩ | ⟨_, x⟩
    · exact hc.2 _ _ _ _ x
    · exact ho _ _ _ _ x
theorem orP_rem {l : List AV} {v : AV} {T : List AV → Bool} (hT : ∀ vs, T vs = true → vs = l) (h : ∀ K : AV → RT, remV l K = K v) : ORok (orP T v) := by
  intro vs s K r e
  replace e := br_t e
  obtain ⟨hv, e⟩ := e
  rw [hT _ hv, h]
  exact e

theorem bRem_int (n : Int) (d : Nat) (K : AV → RT) : bRem (.int .i64 n) (.int .i64 (.ofNat (d + 1))) K = K (.int .i64 (n.tmod (d + 1 : Nat))) := by
  cases n with
  | ofNat m =>
    show forceN (Nat.mod m (Nat.succ d)) (fun m => K (.int .i64 (.ofNat m))) = _
    rw [forceN_eq]
    rfl
  | negSucc m =>
    show Option.rec (motive := fun _ => RT) none (fun v => forceV v K) (bin2B .rem (.int .i64 (.negSucc m)) (.int .i64 (.ofNat (d + 1)))) = _
    have : bin2B .rem (.int .i64 (.negSucc m)) (.int .i64 (.ofNat (d + 1))) = some (.int .i64 ((Int.negSucc m).tmod (d + 1 : Nat))) := by
      simp only [bin2B, if_true, ifB]
      rw [if_pos (by simp; omega)]
      rfl
    rw [this]
    exact forceV_eq _ _

/- the same code over two handlers -/
theorem withE_congr {code code' : F2C} {still : Bool} {cl cl' : CL} (h : ∀ k vs s K, code cl k vs s K = code' cl' k vs s K) (k : Nat) (vs : List AV) (s : HS) (K : AV → HS → RT) : withE code still cl k vs s K = withE code' still cl' k vs s K := by
  unfold withE
  cases s
  simp only [h]

/- a function that is run so -/
theorem orun_ok {f : Nat} {e : F2} (he : F2ok P A f e) {cl : CL} (hc : CLok P A cl) {kk : Nat} {vs : List AV} {v : AV} (x : callF e cl kk vs hs0 (fun v _ => some v) = some v) :
    ∃ k h' n' lg, callN P A k f vs (fun _ => none) 0 = some (v, h', n', lg) := by
  obtain ⟨w, h', n', lg, s1, ⟨k0, hk⟩, _, e⟩ := callF_ok he hc (s := hs0) (K := fun v _ => some v) (h := fun _ => none) (n := 0) ⟨fun _ => rfl, trivial, rfl, Nat.le_refl _, Nat.le_refl _⟩ x
  have : w = v := by simpa using e
  subst this
  exact ⟨k0, h', n', lg, hk k0 (Nat.le_refl _)⟩
theorem orun_pure {f : Nat} {e : F2} (he : F2ok P A f e) {cl : CL} (hc : CLok P A cl) {kk : Nat} {vs : List AV} {v : AV} (hp : A.pure f = true) (ht : AV.trees vs = true) (x : callF e cl kk vs hs0 (fun v _ => some v) = some v) : PureC P A f vs v := by
  obtain ⟨k, h', n', lg, e⟩ := orun_ok he hc x
  exact pure_eval k hp ht (by unfold hp0; rw [e]; rfl)
end
end Go.Abs
