import Derived.Test.YtmnnmgfjlokmkaaGreatAbsOpsF
import Derived.Lib.AppendStr
open Go.RowKit (Below)
namespace Go.Abs
section
variable {P : Program} {B : Nat} {w0 : Anchor} {w : World} {μ : Mu} {M : Mem} {h h' : Heap} {n n' : Nat} {lg : Log}
theorem mapUpdateA_sim (sr : SR B w0 μ M h w) {t : TypeId} {x k u v : AV} {xv kv uv : Value} (hx : VR μ M x xv) (hk : VR μ M k kv) (hu : VR μ M u uv) (e : mapUpdateA P t x k u h n = some (v, h', n', lg)) :
  n' = n ∧ v = .undef ∧ ∃ w', (Instr.mapUpdate t xv kv uv).run P w = .ok () w' ∧ SR B w0 μ M h' w' := by
 unfold mapUpdateA at e
 cases hut : P.underlying t with
 | none => rw [hut] at e; exact (fail_some e).elim
 | some d =>
  rw [hut] at e
  cases d with
  | map kt et =>
   cases hx with
   | map id r hr =>
    simp only at e
    split at e
    ·rename_i hkind
     obtain ⟨o, _, _, _, _, g1, g2, _⟩ := bind_some e
     obtain ⟨ho, rfl, rfl⟩ := get_some g1
     cases o with
     | cells cs => exact (fail_some g2).elim
     | map es =>
      obtain ⟨r', q1, _, hlt, _, _, en, cl, q2, q3, q4⟩ := sr.live id _ ho
      rw [hr] at q1
      cases q1
      have hkd : ∃ d, P.underlying kt = some d := by
       cases hd : P.underlying kt with
       | none => unfold keyKind at hkind; rw [hd] at hkind; simp at hkind
       | some d => exact ⟨d, rfl⟩
      obtain ⟨d, hd⟩ := hkd
      have hck := fun b => checkKey_run (w := w) (b := b) hkind hk
      have hg : (Go.getObj r.b).run P w = .ok (.map en cl) w := by simp [Go.getObj, Sem.run, q2]
      have hset : ∀ o, (Go.setObj r.b o).run P w = .ok () { w with heap := w.heap.setIfInBounds r.b o } := by intro o; simp [Go.setObj, Sem.run, q2]
      cases hf : findA k es 0 with
      | none => simp only [hf] at g2; exact (fail_some g2).elim
      | some fr =>
       simp only [hf] at g2
       rcases find_now hd hkind hk (en := en.toList) (by simpa using q3) (fun j e x he hx => q4 j e x he (by simpa using hx)) hf with ⟨rfl, f2⟩ | ⟨j, u', y, rfl, f2, f3, f4, f5⟩
       ·simp only at g2
        obtain ⟨_, _, _, _, _, e5, f6, _⟩ := bind_some g2
        obtain ⟨rfl, rfl⟩ := set_some e5
        obtain ⟨rfl, rfl, rfl⟩ := pure_some f6
        refine ⟨rfl, rfl, _, ?_, sr.setMap ho hr (en.push { key := kv, val := uv, born := cl }) (cl + 1) (by simp [q3]) ?_⟩
        ·simp only [Instr.mapUpdate, Sem.run_bind, run_underlying hut, Result.andThen_ok, hg, hck, Instr.findKey, run_underlying hd, f2, Sem.run_pure, hset]
        ·intro i e x he hx
         rw [Array.getElem?_push] at hx
         rw [List.getElem?_append] at he
         by_cases hi : i < es.length
         ·rw [if_pos hi] at he
          rw [if_neg (by omega)] at hx
          exact q4 i e x he hx
         ·rw [if_neg hi] at he
          by_cases hi2 : i = en.size
          ·rw [if_pos hi2] at hx
           subst hi2
           rw [q3, Nat.sub_self] at he
           simp only [List.getElem?_cons_zero, Option.some.injEq] at he hx
           subst he hx
           exact ⟨hk, hu⟩
          ·have : i - es.length ≠ 0 := by omega
           obtain ⟨m, hm⟩ := Nat.exists_eq_succ_of_ne_zero this
           rw [hm] at he
           simp at he
       ·simp only [Nat.zero_add] at g2 f2
        obtain ⟨_, _, _, _, _, e5, f6, _⟩ := bind_some g2
        obtain ⟨rfl, rfl⟩ := set_some e5
        obtain ⟨rfl, rfl, rfl⟩ := pure_some f6
        have hy : en[j]? = some y := by simpa using f3
        refine ⟨rfl, rfl, _, ?_, sr.setMap ho hr (en.modify j fun e => { e with key := kv, val := uv }) cl (by simp [q3]) ?_⟩
        ·have hks : (Instr.keyThatStays y.key kv).run P w = .ok kv w := by simp [Instr.keyThatStays, f5]
         simp only [Instr.mapUpdate, Sem.run_bind, run_underlying hut, Result.andThen_ok, hg, hck, Instr.findKey, run_underlying hd, f2, Sem.run_pure, hy, Option.map_some, Option.getD_some, hks, hset]
        ·intro i e x he hx
         rw [Array.getElem?_modify] at hx
         rw [List.getElem?_set] at he
         by_cases hi : j = i
         ·subst hi
          rw [if_pos rfl] at hx
          simp only [if_true] at he
          rw [hy] at hx
          simp only [Option.map_some, Option.some.injEq] at hx
          subst hx
          split at he
          ·simp only [Option.some.injEq] at he
           subst he
           exact ⟨hk, hu⟩
          ·cases he
         ·rw [if_neg hi] at hx he
          exact q4 i e x he hx
    ·exact (fail_some e).elim
   | _ => exact (fail_some e).elim
  | _ => exact (fail_some e).elim
theorem srcA_sim (sr : SR B w0 μ M h w) {s : Nat} {y : AV} {yv : Value} {src : List AV × Nat} (hy : VR μ M y yv) (e : srcA s y h n = some (src, h', n', lg)) (hl : src.1.length = src.2 * s) :
  h' = h ∧ n' = n ∧ (∀ w, (Builtin.lenOf yv).run P w = .ok src.2 w) ∧ ∃ news : List Value, VRs μ M src.1 news ∧
   (∀ w', (∀ a, w'.cell? a = w.cell? a) → (Builtin.firstCells s src.2 yv).run P w' = .ok news.toArray w') ∧
   (∀ k, k ≤ src.2 → ∀ w', (∀ a, w'.cell? a = w.cell? a) → (Builtin.firstCells s k yv).run P w' = .ok (news.take (k * s)).toArray w') := by
 suffices H : h' = h ∧ n' = n ∧ (∀ w, (Builtin.lenOf yv).run P w = .ok src.2 w) ∧ ∃ news : List Value, VRs μ M src.1 news ∧
   (∀ k, k ≤ src.2 → ∀ w', (∀ a, w'.cell? a = w.cell? a) → (Builtin.firstCells s k yv).run P w' = .ok (news.take (k * s)).toArray w') by
  obtain ⟨a, b, c, news, d, f⟩ := H
  refine ⟨a, b, c, news, d, fun w' hw => ?_, f⟩
  have := f src.2 (Nat.le_refl _) w' hw
  rwa [List.take_of_length_le (by rw [← d.1, hl]; exact Nat.le_refl _)] at this
 obtain ⟨m, hm⟩ : ∃ m, m = srcA s y := ⟨_, rfl⟩
 rw [← hm] at e
 unfold srcA at hm
 split at hm
 ·subst hm
  obtain ⟨rfl, rfl, rfl⟩ := pure_some e
  cases hy
  exact ⟨rfl, rfl, fun w => by simp [Builtin.lenOf], [], .nil, fun k hk w' _ => by simp [Builtin.firstCells]⟩
 ·rename_i b
  subst hm
  obtain ⟨rfl, rfl, rfl⟩ := pure_some e
  have hyv := hy.str_inv
  subst hyv
  have hsz : (⟨b.toArray⟩ : ByteArray).size = b.length := by simp [ByteArray.size]
  refine ⟨rfl, rfl, fun w => by simp [Builtin.lenOf, hsz], b.map (fun c => Value.int .u8 c.toNat), ⟨by simp, ?_⟩, fun k hk w' _ => ?_⟩
  ·intro i a v ha hv
   rw [List.getElem?_map] at ha hv
   obtain ⟨c, hc, rfl⟩ := mapo ha
   rw [hc] at hv
   simp only [Option.map_some, Option.some.injEq] at hv
   subst hv
   exact .int _ _
  ·simp only at hl hk
   have hs1 : b.length = 0 ∨ s = 1 := by
    simp at hl
    rcases Nat.eq_zero_or_pos b.length with h0 | h0
    ·exact .inl h0
    ·right
     have : b.length * 1 = b.length * s := by omega
     exact (Nat.eq_of_mul_eq_mul_left h0 this).symm
   simp only [Builtin.firstCells, Sem.run_pure]
   congr 1
   apply Array.ext'
   rcases hs1 with h0 | rfl
   ·have : b = [] := List.length_eq_zero_iff.1 h0
    subst this
    simp
   ·simp [List.map_take]
 ·rename_i id off k sz
  subst hm
  split at e
  ·rename_i hsz
   subst hsz
   obtain ⟨cs, _, _, _, _, e1, f1, _⟩ := bind_some e
   obtain ⟨rfl, rfl, rfl⟩ := pure_some f1
   cases hy with
   | sl _ _ _ _ cap rg a hr hlc hcap =>
    obtain ⟨rfl, rfl, hlen, b, o, vs, hpv, hvs, hc⟩ := cellsAt_sim sr (.ptr id off rg hr) e1
    simp only [Value.pointer.injEq, Option.some.injEq, Addr.mk.injEq, and_true] at hpv
    obtain ⟨rfl, rfl⟩ := hpv
    refine ⟨rfl, rfl, fun w => by simp [Builtin.lenOf], vs, hvs, fun j hj w' hw => ?_⟩
    simp only at hj hl
    rcases Nat.eq_zero_or_pos cap with h0 | h0
    ·have : j = 0 := by omega
     subst this
     simp [Builtin.firstCells, loadCells, loadCellsFrom]
    ·obtain ⟨rfl, _⟩ := hcap h0
     have hvl := hvs.1
     have hle : j * sz ≤ vs.length := by
      have : j * sz ≤ k * sz := Nat.mul_le_mul_right _ hj
      omega
     have := run_loadCells_at (P := P) (w := w') (b := rg.b) (o := rg.o + off) (vs := vs.take (j * sz)) (by
      intro i v hv
      rw [List.getElem?_take] at hv
      split at hv
      ·rw [hw]; exact hc i v hv
      ·cases hv)
     rw [List.length_take, Nat.min_eq_left hle] at this
     simpa [Builtin.firstCells] using this
  ·exact (fail_some e).elim
 ·rename_i cs k
  subst hm
  obtain ⟨cs', _, _, _, _, e1, f1, _⟩ := bind_some e
  obtain ⟨hcs, rfl, rfl⟩ := lift_some e1
  obtain ⟨rfl, rfl, rfl⟩ := pure_some f1
  cases hy with
  | tsl _ _ cap a vs hlc hsp hm hr =>
   have hlen := sliceL_len hcs
   simp only at hl
   refine ⟨rfl, rfl, fun w => by simp [Builtin.lenOf], (List.range (k * s)).map vs, ⟨by simp [hl], ?_⟩, fun j hj w' hw => ?_⟩
   ·intro i x y hx hy
    have hi : i < k * s := by rw [← hlen.1]; exact (List.getElem?_eq_some_iff.1 hx).1
    simp [hi] at hy
    have := sliceL_get hcs hx
    rw [Nat.zero_add] at this
    exact hy ▸ hr i x this
   ·simp only at hj
    have hle : j * s ≤ k * s := Nat.mul_le_mul_right _ hj
    rcases Nat.eq_zero_or_pos k with h0 | h0
    ·have : j = 0 := by omega
     subst this
     simp [Builtin.firstCells, loadCells, loadCellsFrom]
    ·have hsp' := hsp (.inl h0)
     obtain ⟨ab, ao, asp⟩ := a
     simp only at hsp' hm
     subst hsp'
     have := run_loadCells_at (P := P) (w := w') (b := ab) (o := ao) (vs := ((List.range (k * s)).map vs).take (j * s)) (by
      intro i v hv
      rw [List.getElem?_take] at hv
      split at hv
      ·rename_i hi
       have hik : i < k * s := by omega
       simp [hik] at hv
       have hjc : i < cs.length := by omega
       rw [hw, ← hv]
       exact sr.mem _ _ _ (hm i _ (List.getElem?_eq_getElem hjc))
      ·cases hv)
     rw [List.length_take, List.length_map, List.length_range, Nat.min_eq_left hle] at this
     simpa [Builtin.firstCells] using this
 ·subst hm
  exact (fail_some e).elim
end
end Go.Abs
