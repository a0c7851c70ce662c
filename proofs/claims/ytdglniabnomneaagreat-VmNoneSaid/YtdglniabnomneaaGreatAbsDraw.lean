/- A region whose order is open: every order comes to what the text's order came to. -/
import Derived.Test.YtdglniabnomneaaGreatAbsRun
open Go.RowKit (Below)
namespace Go.Abs

theorem anc_foldl {b : Edge → Bool} {g : Edge → Nat} {k : Nat} : ∀ (l : List Edge) (s : Nat), (l.foldl (fun s e => if b e then s ||| 2 ^ e.on ||| g e else s) s).testBit k = true →
    s.testBit k = true ∨ ∃ e ∈ l, b e = true ∧ (k = e.on ∨ (g e).testBit k = true)
  | [], s, h => .inl h
  | e :: l, s, h => by
    rw [List.foldl_cons] at h
    rcases anc_foldl l _ h with h1 | ⟨e', h1, h2, h3⟩
    · by_cases hb : b e = true
      · rw [if_pos hb] at h1
        rw [Nat.testBit_or, Nat.testBit_or, Nat.testBit_two_pow] at h1
        simp only [Bool.or_eq_true, decide_eq_true_eq] at h1
        rcases h1 with (h1 | h1) | h1
        · exact .inl h1
        · exact .inr ⟨e, by simp, hb, .inl h1.symm⟩
        · exact .inr ⟨e, by simp, hb, .inr h1⟩
      · rw [if_neg hb] at h1
        exact .inl h1
    · exact .inr ⟨e', by simp [h1], h2, h3⟩

theorem ancL_spec : ∀ (l : List Oper) (acc : List Nat), (ancL l acc).length = acc.length + l.length ∧ (ancL l acc).take acc.length = acc ∧
    ∀ (j : Nat) o, l[j]? = some o → (ancL l acc)[acc.length + j]? = some (ancAt ((ancL l acc).take (acc.length + j)) o)
  | [], acc => ⟨by simp [ancL], by simp [ancL], by simp⟩
  | o :: l, acc => by
    obtain ⟨h1, h2, h3⟩ := ancL_spec l (acc ++ [ancAt acc o])
    have hl : (acc ++ [ancAt acc o]).length = acc.length + 1 := by simp
    rw [hl] at h1 h2 h3
    have htake : (ancL l (acc ++ [ancAt acc o])).take acc.length = acc := by
      have := congrArg (List.take acc.length) h2
      rw [List.take_take, Nat.min_eq_left (by omega)] at this
      rw [this]
      simp
    refine ⟨by simp only [ancL, List.length_cons]; omega, by simpa only [ancL] using htake, ?_⟩
    intro j o' hj
    simp only [ancL]
    cases j with
    | zero =>
      simp only [List.getElem?_cons_zero, Option.some.injEq] at hj
      subst hj
      rw [Nat.add_zero, htake]
      have := congrArg (fun x : List Nat => x[acc.length]?) h2
      simp only [List.getElem?_take] at this
      rw [if_pos (by omega)] at this
      rw [this]
      simp
    | succ j =>
      have := h3 j o' (by simpa using hj)
      rw [show acc.length + (j + 1) = acc.length + 1 + j by omega]
      exact this

def Closed (ops : Array Oper) (S : Nat → Prop) : Prop := ∀ i o, ops[i]? = some o → S i → ∀ e ∈ o.after, Region.binds .any e = true → S e.on

theorem anc_closed {ops : Array Oper} {S : Nat → Prop} (hc : Closed ops S) : ∀ (j : Nat) o, ops[j]? = some o → (∀ e ∈ o.after, Region.binds .any e = true → S e.on) → ∀ k, ((ancL ops.toList []).getD j 0).testBit k = true → S k := by
  intro j
  induction j using Nat.strongRecOn with
  | _ j ih =>
    intro o ho hdeps k hk
    obtain ⟨_, _, h3⟩ := ancL_spec ops.toList []
    have hj := h3 j o (by simpa using ho)
    simp only [List.length_nil, Nat.zero_add] at hj
    rw [List.getD_eq_getElem?_getD, hj] at hk
    simp only [Option.getD_some, ancAt] at hk
    rcases anc_foldl _ _ hk with h | ⟨e, he, hb, h⟩
    · simp at h
    · have hse := hdeps e (by simpa using he) hb
      rcases h with rfl | h
      · exact hse
      · rw [List.getD_eq_getElem?_getD, List.getElem?_take] at h
        by_cases hlt : e.on < j
        · rw [if_pos hlt] at h
          have hjs : j < ops.size := (Array.getElem?_eq_some_iff.1 ho).1
          have ho' : ops[e.on]? = some ops[e.on] := Array.getElem?_eq_getElem (by omega)
          exact ih e.on hlt _ ho' (fun e' he' hb' => hc e.on _ ho' hse e' he' hb') k (by rw [List.getD_eq_getElem?_getD]; exact h)
        · rw [if_neg hlt] at h
          simp at h

theorem mem_openPairs {ops : Array Oper} {i j : Nat} (hj : j < ops.size) (hij : i < j) (h : ((ancL ops.toList []).getD j 0).testBit i = false) : (i, j) ∈ openPairs ops := by
  unfold openPairs
  simp only [List.mem_flatMap, List.mem_map, List.mem_filter, List.mem_range]
  exact ⟨j, hj, i, ⟨hij, by rw [h]; rfl⟩, rfl⟩

theorem disj_spec {a b : List Nat} (h : disj a b = true) {x : Nat} (ha : x ∈ a) (hb : x ∈ b) : False := by
  unfold disj at h
  rw [List.all_eq_true] at h
  have := h x ha
  simp [hb] at this

theorem countP_lt {p q : Nat → Bool} : ∀ (l : List Nat) (i : Nat), i ∈ l → (∀ x, q x = true → p x = true) → p i = true → q i = false → l.countP q < l.countP p
  | [], _, h, _, _, _ => by cases h
  | x :: l, i, h, hqp, hp, hq => by
    have hle : l.countP q ≤ l.countP p := List.countP_mono_left (fun x _ => hqp x)
    rw [List.countP_cons, List.countP_cons]
    rcases List.mem_cons.1 h with rfl | h
    · rw [hp, hq]
      simp
      omega
    · have := countP_lt l i h hqp hp hq
      cases hqx : q x with
      | false => simp; split <;> omega
      | true => simp [hqp x hqx]; exact this

section
variable {P : Program} {A : Ann} {call : Nat → List AV → AM AV} {B : Nat} {w0 : Anchor} {nt f : Nat}

theorem draw_any (hc : CallSim P A call) (hl : ∀ f vs, Local (call f vs)) (hB : B ≤ w0.w.heap.size) {ops : Array Oper} (hok : regionOk ops = true) {rs : List Rec} {fr fr' : Fr} {h h' : Heap} {n n' : Nat}
    (ch : Chain call P A f nt ops rs fr h n fr' h' n') (hro : rs.map (·.o) = ops.toList) (hcalm : calm ops (rs.map fun r => (r.lg, r.n, r.n')) = true) {μ : Mu} {M : Mem} (hfree : ∀ id, n ≤ id → id < n' → μ id = none)
    {Q : Exit → Act → World → Prop} (hQ : ∀ a' w' μ' M', SR B w0 μ' M' h' w' → μ.le μ' → M.le M' → (∀ id, ¬(n ≤ id ∧ id < n') → μ' id = μ id) → RegR μ' M' nt fr'.regs a' → Q .normal a' w') :
    ∀ (fuel : Nat) (listed : Array Bool) (a : Act) (w : World) (μ1 : Mu) (M1 : Mem), listed.size = ops.size → Closed ops (fun i => listed.getD i false = true) → (List.range ops.size).countP (fun i => !listed.getD i false) ≤ fuel →
      SR B w0 μ1 M1 (foldSt (fun i => listed.getD i false) 0 rs (fr.regs, h)).2 w → RegR μ1 M1 nt (foldSt (fun i => listed.getD i false) 0 rs (fr.regs, h)).1 a → GlobOK A M1 → μ.le μ1 → M.le M1 →
      (∀ id, (∀ (i : Nat) r, rs[i]? = some r → listed.getD i false = true → ¬(r.n ≤ id ∧ id < r.n')) → μ1 id = μ id) → wpAny P .any ops Q fuel listed a w := by
  have hlen : rs.length = ops.size := by
    have := congrArg List.length hro
    simpa using this
  have hro' : ∀ (i : Nat) r, rs[i]? = some r → ops[i]? = some r.o := by
    intro i r hr
    have := congrArg (fun l : List Oper => l[i]?) hro
    simp only [List.getElem?_map, hr, Option.map_some] at this
    simpa using this.symm
  unfold regionOk at hok
  simp only [Bool.and_eq_true, List.all_eq_true] at hok
  obtain ⟨hback, happ⟩ := hok
  unfold calm at hcalm
  rw [List.all_eq_true] at hcalm
  -- what is in no order does not clash
  have pair : ∀ (i j : Nat) r q, i < j → rs[i]? = some r → rs[j]? = some q → ((ancL ops.toList []).getD j 0).testBit i = false → clash (r.lg, r.n, r.n') (q.lg, q.n, q.n') = false ∧ r.o.apart ops q.o = true := by
    intro i j r q hij hr hq hb
    have hj : j < ops.size := by rw [← hlen]; exact (List.getElem?_eq_some_iff.1 hq).1
    have hm := mem_openPairs hj hij hb
    have h1 := hcalm _ hm
    have h2 := happ _ hm
    simp only [List.getD_eq_getElem?_getD, List.getElem?_map, hr, hq, Option.map_some, Option.getD_some, Bool.not_eq_true'] at h1
    simp only [hro' i r hr, hro' j q hq] at h2
    exact ⟨h1, h2⟩
  have clash_not : ∀ {a b : LogN}, clash a b = false → (∀ x, x ∈ a.1.2 → x ∉ b.1.1) ∧ (∀ x, x ∈ a.1.2 → x ∉ b.1.2) ∧ (∀ x, x ∈ b.1.2 → x ∉ a.1.1) ∧ (∀ x, x ∈ b.1.1 ∨ x ∈ b.1.2 → ¬(a.2.1 ≤ x ∧ x < a.2.2)) := by
    intro a b hcl
    unfold clash at hcl
    simp only [Bool.not_eq_false', Bool.and_eq_true] at hcl
    obtain ⟨⟨⟨c1, c2⟩, c3⟩, c4⟩ := hcl
    refine ⟨fun x h1 h2 => disj_spec c1 h1 h2, fun x h1 h2 => disj_spec c2 h1 h2, fun x h1 h2 => disj_spec c3 h1 h2, fun x hx hr => ?_⟩
    rw [List.all_eq_true] at c4
    have := c4 x (List.mem_append.2 hx)
    simp [hr.1, hr.2] at this
  intro fuel
  induction fuel with
  | zero =>
    intro listed a w μ1 M1 hsz hclo hcnt sr rr hg hμ hM hid
    have hall : ∀ i, i < ops.size → listed.getD i false = true := by
      intro i hi
      have h0 : (List.range ops.size).countP (fun i => !listed.getD i false) = 0 := by omega
      rw [List.countP_eq_zero] at h0
      have := h0 i (List.mem_range.2 hi)
      simpa using this
    have hready : Region.ready .any ops listed = [] := by
      cases hr : Region.ready .any ops listed with
      | nil => rfl
      | cons x xs =>
        have hx : x ∈ Region.ready .any ops listed := by rw [hr]; simp
        obtain ⟨hx1, o, ho, _⟩ := mem_ready.1 hx
        have hxs := (Array.getElem?_eq_some_iff.1 ho).1
        have := hall x hxs
        rw [Array.getD_eq_getD_getElem?, Array.getElem?_eq_getElem (by omega)] at this hx1
        simp at this hx1
        rw [this] at hx1
        cases hx1
    refine ⟨hready, ?_⟩
    have hfold : foldSt (fun i => listed.getD i false) 0 rs (fr.regs, h) = (fr'.regs, h') := by
      rw [← chain_fold ch 0]
      apply Prod.ext
      · funext t
        exact fold_reg rs 0 _ _ rfl (fun k r hk _ => by rw [Nat.zero_add]; exact hall k (by rw [← hlen]; exact (List.getElem?_eq_some_iff.1 hk).1))
      · funext t
        exact fold_id rs 0 _ _ rfl (fun k r hk _ => by rw [Nat.zero_add]; exact hall k (by rw [← hlen]; exact (List.getElem?_eq_some_iff.1 hk).1))
    rw [hfold] at sr rr
    refine hQ a w μ1 M1 sr hμ hM (fun id hn => hid id (fun i r hr _ hin => ?_)) rr
    obtain ⟨_, _, k3, k4⟩ := chain_at ch 0 i r hr
    omega
  | succ fuel ih =>
    intro listed a w μ1 M1 hsz hclo hcnt sr rr hg hμ hM hid
    refine ⟨fun hready => ?_, fun i hi => ?_⟩
    · -- nothing is ready: all is done
      have hall : ∀ i, i < ops.size → listed.getD i false = true := by
        intro i
        induction i using Nat.strongRecOn with
        | _ i ihi =>
          intro hi
          cases hli : listed.getD i false with
          | true => rfl
          | false =>
            exfalso
            have ho : ops[i]? = some ops[i] := Array.getElem?_eq_getElem hi
            have hmem : i ∈ Region.ready .any ops listed := by
              refine mem_ready.2 ⟨?_, ops[i], ho, fun e he hb => ?_⟩
              · rw [Array.getD_eq_getD_getElem?, Array.getElem?_eq_getElem (by omega)] at hli ⊢
                simpa using hli
              · have := hback i (List.mem_range.2 hi)
                rw [ho] at this
                simp only [List.all_eq_true] at this
                have := this e (by simpa using he)
                simp only [hb, Bool.not_true, Bool.false_or, decide_eq_true_eq] at this
                exact ihi e.on this (by omega)
            rw [hready] at hmem
            cases hmem
      have hfold : foldSt (fun i => listed.getD i false) 0 rs (fr.regs, h) = (fr'.regs, h') := by
        rw [← chain_fold ch 0]
        apply Prod.ext
        · funext t
          exact fold_reg rs 0 _ _ rfl (fun k r hk _ => by rw [Nat.zero_add]; exact hall k (by rw [← hlen]; exact (List.getElem?_eq_some_iff.1 hk).1))
        · funext t
          exact fold_id rs 0 _ _ rfl (fun k r hk _ => by rw [Nat.zero_add]; exact hall k (by rw [← hlen]; exact (List.getElem?_eq_some_iff.1 hk).1))
      rw [hfold] at sr rr
      refine hQ a w μ1 M1 sr hμ hM (fun id hn => hid id (fun i r hr _ hin => ?_)) rr
      obtain ⟨_, _, k3, k4⟩ := chain_at ch 0 i r hr
      omega
    · obtain ⟨hi1, o, ho, hdeps⟩ := mem_ready.1 hi
      have his : i < ops.size := (Array.getElem?_eq_some_iff.1 ho).1
      have hli : listed.getD i false = false := by
        rw [Array.getD_eq_getD_getElem?, Array.getElem?_eq_getElem (by omega)] at hi1 ⊢
        simpa using hi1
      obtain ⟨r, hr⟩ : ∃ r, rs[i]? = some r := ⟨rs[i], List.getElem?_eq_getElem (by omega)⟩
      have hor := hro' i r hr
      rw [ho] at hor
      cases hor
      obtain ⟨hpre, hrok, hn1, hn2⟩ := chain_at ch 0 i r hr
      simp only [Nat.zero_add] at hpre
      -- what is done and what stands ahead in the text agree on all that this one touches
      have ahead : ∀ (k : Nat) q, rs[k]? = some q → k < i → listed.getD k false = false → clash (q.lg, q.n, q.n') (r.lg, r.n, r.n') = false ∧ q.o.apart ops r.o = true := by
        intro k q hk hlt hlk
        refine pair k i q r hlt hk hr ?_
        cases hb : ((ancL ops.toList []).getD i 0).testBit k with
        | false => rfl
        | true =>
          have := anc_closed hclo i r.o ho hdeps k hb
          rw [hlk] at this
          cases this
      have behind : ∀ (k : Nat) q, rs[k]? = some q → i < k → listed.getD k false = true → clash (r.lg, r.n, r.n') (q.lg, q.n, q.n') = false ∧ r.o.apart ops q.o = true := by
        intro k q hk hlt hlk
        refine pair i k r q hlt hr hk ?_
        cases hb : ((ancL ops.toList []).getD k 0).testBit i with
        | false => rfl
        | true =>
          have hok' := hro' k q hk
          have := anc_closed hclo k q.o hok' (fun e he hb => hclo k q.o hok' hlk e he hb) i hb
          rw [hli] at this
          cases this
      have hltr := hrok.2.2.lt
      have hagree : Agree (foldSt (fun i => listed.getD i false) 0 rs (fr.regs, h)).2 r.h r.n r.n' r.lg := by
        intro id hin
        have : (foldSt (fun k => decide (k < i)) 0 rs (fr.regs, h)).2 id = r.h id := by rw [hpre]
        rw [← this]
        refine fold_id rs 0 _ _ rfl (fun k q hk hw => ?_)
        rw [Nat.zero_add]
        obtain ⟨_, hqok, _, _⟩ := chain_at ch 0 k q hk
        have hltq := hqok.2.2.lt
        rcases Nat.lt_trichotomy k i with hlt | heq | hgt
        · have hrange := chain_ranges ch k i q r hk hr hlt
          cases hlk : listed.getD k false with
          | true => simp [hlt]
          | false =>
            exfalso
            obtain ⟨c1, c2, c3, c4⟩ := clash_not (ahead k q hk hlt hlk).1
            simp only at c1 c2 c3 c4
            rcases hw with hw | hw
            · have := hltq id (.inr hw)
              rcases hin with hin | hin | hin
              · exact c1 id hw hin
              · exact c2 id hw hin
              · omega
            · rcases hin with hin | hin | hin
              · exact c4 id (.inl hin) hw
              · exact c4 id (.inr hin) hw
              · omega
        · subst heq
          rw [hli]
          simp
        · have hrange := chain_ranges ch i k r q hr hk hgt
          have hd : decide (k < i) = false := by simp; omega
          rw [hd]
          cases hlk : listed.getD k false with
          | false => rfl
          | true =>
            exfalso
            obtain ⟨c1, c2, c3, c4⟩ := clash_not (behind k q hk hgt hlk).1
            simp only at c1 c2 c3 c4
            rcases hw with hw | hw
            · rcases hin with hin | hin | hin
              · exact c3 id hw hin
              · exact c2 id hin hw
              · exact c4 id (.inr hw) hin
            · rcases hin with hin | hin | hin
              · have := hltr id (.inl hin); omega
              · have := hltr id (.inr hin); omega
              · omega
      have hregs : ∀ t, t ∈ r.o.looksAt ops → (foldSt (fun i => listed.getD i false) 0 rs (fr.regs, h)).1 t = r.fr.regs t := by
        intro t ht
        have : (foldSt (fun k => decide (k < i)) 0 rs (fr.regs, h)).1 t = r.fr.regs t := by rw [hpre]
        rw [← this]
        refine fold_reg rs 0 _ _ rfl (fun k q hk hw => ?_)
        rw [Nat.zero_add]
        rcases Nat.lt_trichotomy k i with hlt | heq | hgt
        · cases hlk : listed.getD k false with
          | true => simp [hlt]
          | false =>
            exfalso
            have ha := (ahead k q hk hlt hlk).2
            unfold Rec.wReg at hw
            unfold Oper.apart at ha
            rw [hw] at ha
            simp [ht] at ha
        · subst heq
          rw [hli]
          simp
        · have hd : decide (k < i) = false := by simp; omega
          rw [hd]
          cases hlk : listed.getD k false with
          | false => rfl
          | true =>
            exfalso
            have ha := (behind k q hk hgt hlk).2
            unfold Rec.wReg at hw
            unfold Oper.apart at ha
            rw [hw] at ha
            simp [ht] at ha
      have hlist' : (fun k => (listed.setIfInBounds i true).getD k false) = fun k => listed.getD k false || k == i := by
        funext k
        by_cases e : i = k
        · subst e
          simp [Array.getD_eq_getD_getElem?, hsz, his]
        · rw [getD_set_ne false e]
          have : (k == i) = false := by simp; exact fun h => e h.symm
          rw [this, Bool.or_false]
      have hadd : foldSt (fun k => (listed.setIfInBounds i true).getD k false) 0 rs (fr.regs, h) = r.apply (foldSt (fun i => listed.getD i false) 0 rs (fr.regs, h)) := by
        rw [hlist']
        refine fold_add hr hli ?_ ?_
        · intro m q t hm hlt hlm hw hw'
          have ha := (behind m q hm hlt hlm).2
          unfold Rec.wReg at hw hw'
          unfold Oper.apart at ha
          rw [hw, hw'] at ha
          simp at ha
        · intro m q id hm hlt hlm hw hw'
          have hrange := chain_ranges ch i m r q hr hm hlt
          obtain ⟨c1, c2, c3, c4⟩ := clash_not (behind m q hm hlt hlm).1
          simp only at c1 c2 c3 c4
          rcases hw with hw | hw <;> rcases hw' with hw' | hw'
          · exact c2 id hw hw'
          · have := hltr id (.inr hw); omega
          · exact c4 id (.inr hw') hw
          · omega
      have hnone : ∀ id, r.n ≤ id → id < r.n' → μ1 id = none := by
        intro id h1 h2
        rw [hid id (fun k q hk hlk hin => ?_)]
        · exact hfree id (by omega) (by omega)
        · rcases Nat.lt_trichotomy k i with hlt | heq | hgt
          · have := chain_ranges ch k i q r hk hr hlt; omega
          · subst heq; rw [hli] at hlk; cases hlk
          · have := chain_ranges ch i k r q hr hk hgt; omega
      refine hrok.1.sim hc hl hB hrok.2.1 ho hagree hregs sr hg hnone rr ?_
      intro a' w' μ' M' s1 s2 s3 s4 s5
      refine ih (listed.setIfInBounds i true) a' w' μ' M' (by simpa using hsz) ?_ ?_ ?_ ?_ (hg.mono s3) (hμ.trans s2) (hM.trans s3) ?_
      · intro k o' hk hlk e he hb
        by_cases e' : i = k
        · subst e'
          rw [ho] at hk
          cases hk
          exact getD_set_true (hdeps e he hb)
        · rw [getD_set_ne false e'] at hlk
          exact getD_set_true (hclo k o' hk hlk e he hb)
      · have := countP_lt (p := fun k => !listed.getD k false) (q := fun k => !(listed.setIfInBounds i true).getD k false) (List.range ops.size) i (List.mem_range.2 his) (fun x hx => by
            cases hlx : listed.getD x false with
            | false => rfl
            | true => rw [getD_set_true hlx] at hx; cases hx) (by simp only [hli]; rfl) (by
            have hx := congrFun hlist' i
            have hx' : (listed.setIfInBounds i true).getD i false = true := by rw [hx]; simp
            rw [hx']
            rfl)
        omega
      · rw [hadd]; exact s1
      · rw [hadd]; exact s5
      · intro id hno
        rw [s4 id (hno i r hr (by have hx := congrFun hlist' i; exact hx.trans (by simp)))]
        refine hid id (fun k q hk hlk => hno k q hk (getD_set_true hlk))

theorem runDraw_sim (hm : P.follows .mixedOrders = true) (hc : CallSim P A call) (hl : ∀ f vs, Local (call f vs)) (hB : B ≤ w0.w.heap.size) {ops : Array Oper} (hok : regionOk ops = true) {id : Nat} {fr fr' : Fr} {h h' : Heap} {n n' : Nat} {lg : Log} {μ : Mu} {M : Mem} {w : World} {a : Act}
    (hf : Fresh h n) (e : runDraw call P A f nt ops fr h n = some (fr', h', n', lg)) (sr : SR B w0 μ M h w) (hg : GlobOK A M) (hfree : ∀ id, n ≤ id → id < n' → μ id = none) (rr : RegR μ M nt fr.regs a) {Q : Exit → Act → World → Prop}
    (hQ : ∀ a' w' μ' M', SR B w0 μ' M' h' w' → μ.le μ' → M.le M' → (∀ id, ¬(n ≤ id ∧ id < n') → μ' id = μ id) → RegR μ' M' nt fr'.regs a' → Q .normal a' w') : (Code.region id ops true).wp P Q a w := by
  unfold runDraw at e
  cases e1 : runLog call P A f nt ops ops.toList fr h n with
  | none => rw [e1] at e; cases e
  | some x =>
    obtain ⟨fr1, h1, n1, lgs⟩ := x
    rw [e1] at e
    simp only at e
    split at e
    · rename_i hcalm
      simp only [Option.some.injEq, Prod.mk.injEq] at e
      obtain ⟨rfl, rfl, rfl, _⟩ := e
      obtain ⟨rs, ch, hro, hlg⟩ := runLog_chain hl hf e1
      have hfold0 : ∀ (rs : List Rec) (i : Nat) (s : RS), foldSt (fun i => (Array.replicate ops.size false).getD i false) i rs s = s := by
        intro rs
        induction rs with
        | nil => intro i s; rfl
        | cons r rs ih =>
          intro i s
          unfold foldSt
          have : (Array.replicate ops.size false).getD i false = false := by
            rw [Array.getD_eq_getD_getElem?, Array.getElem?_replicate]
            split <;> rfl
          rw [this]
          simp only [Bool.false_eq_true, if_false]
          exact ih _ _
      have hnot : ∀ i, (Array.replicate ops.size false).getD i false = false := by
        intro i
        rw [Array.getD_eq_getD_getElem?, Array.getElem?_replicate]
        split <;> rfl
      refine wp_region_any hm ?_
      refine draw_any hc hl hB hok ch hro (by rw [hlg]; exact hcalm) hfree hQ ops.size (Array.replicate ops.size false) a w.drew μ M (by simp) ?_ ?_ ?_ ?_ hg (.refl _) (.refl _) (fun _ _ => rfl)
      · intro i o _ hi
        simp only [hnot] at hi
        cases hi
      · exact Nat.le_trans List.countP_le_length (by simp)
      · rw [hfold0]; exact sr.drew (sr.le_size hB)
      · rw [hfold0]; exact rr
    · cases e

end
end Go.Abs
