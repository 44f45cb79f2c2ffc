/-
  PriorityOperators: parts of its proof (Gr5 Gr6 Gr7).
-/
import Derived.Test.YtfadmmecedicjaaGreatDoorK32
import Derived.Test.YtfadmmecedicjaaGreatDoorK33
set_option linter.unusedVariables false
set_option linter.unusedSimpArgs false

section
/-
  From what the walk of Grammar leaves to what the calls ask.
-/
namespace Go.Pri
open Go Go.Abs Go.Proofs Go.RowKit
set_option maxRecDepth 100000

/-! ## Rows as slices -/
theorem flat_cell {k : Nat} : ∀ {cs : List (List Value)} {j : Nat} {c : List Value} {i : Nat} {u : Value}, (∀ c ∈ cs, c.length = k) → cs[j]? = some c → c[i]? = some u → cs.flatten[j * k + i]? = some u
  | [], _, _, _, _, _, h, _ => by cases h
  | y :: cs, 0, c, i, u, hk, h, h2 => by
    simp only [List.getElem?_cons_zero, Option.some.injEq] at h
    subst h
    rw [List.flatten_cons, Nat.zero_mul, Nat.zero_add, List.getElem?_append_left (List.getElem?_eq_some_iff.1 h2).1]
    exact h2
  | y :: cs, j + 1, c, i, u, hk, h, h2 => by
    have ih := flat_cell (k := k) (fun c hc => hk c (List.mem_cons_of_mem _ hc)) (by simpa using h) h2
    have hy := hk y (List.mem_cons_self ..)
    rw [List.flatten_cons, List.getElem?_append_right (by rw [hy, Nat.succ_mul]; omega)]
    have e : (j + 1) * k + i - y.length = j * k + i := by rw [hy, Nat.succ_mul]; omega
    rw [e]
    exact ih
theorem own_slice {w : World} {base e k : Nat} {v : Value} {cs : List (List Value)} (hk : ∀ c ∈ cs, c.length = k) (h0 : 0 < cs.length) (h : w.ownsRow base e k v cs.length cs.flatten) : SliceAt k w v cs := by
  rcases h.2 with ⟨_, hx⟩ | ⟨g, cap, cur, rfl, _, h1, h2, _, _, h3⟩
  · omega
  · refine .inr ⟨g, 0, cap, rfl, h2, fun j c hj i u hi => ?_⟩
    have hf := flat_cell hk hj hi
    rw [← h3, List.getElem?_take] at hf
    split at hf
    · rw [Nat.zero_add]
      exact cells_at h1 (by simpa using hf)
    · cases hf

/-! ## The productions -/
noncomputable def prodsL (rb : Nat → Nat) : Nat → List (List Value)
  | 0 => [prodV nameO (rb 0) 1]
  | n + 1 => prodsL rb n ++ [prodV (nameC n) (rb (n + 1)) 3]
theorem prodsL_len (rb : Nat → Nat) : ∀ n, (prodsL rb n).length = n + 1
  | 0 => rfl
  | n + 1 => by simp [prodsL, prodsL_len rb n]
theorem prodsL_flat (rb : Nat → Nat) : ∀ n, (prodsL rb n).flatten = prodsV rb n
  | 0 => by simp [prodsL, prodsV]
  | n + 1 => by simp [prodsL, prodsV, prodsL_flat rb n]
theorem prodsL_13 (rb : Nat → Nat) : ∀ n, ∀ c ∈ prodsL rb n, c.length = 13
  | 0, c, h => by simp [prodsL] at h; subst h; rfl
  | n + 1, c, h => by
    simp only [prodsL, List.mem_append, List.mem_singleton] at h
    rcases h with h | rfl
    · exact prodsL_13 rb n c h
    · rfl
theorem prodsL_at (rb : Nat → Nat) : ∀ {n j : Nat}, j ≤ n → (prodsL rb n)[j]? = some (match j with | 0 => prodV nameO (rb 0) 1 | j + 1 => prodV (nameC j) (rb (j + 1)) 3)
  | 0, j, h => by
    obtain rfl : j = 0 := by omega
    rfl
  | n + 1, j, h => by
    by_cases e : j = n + 1
    · subst e
      simp only [prodsL]
      rw [List.getElem?_append_right (by rw [prodsL_len]; omega), prodsL_len]
      simp
    · simp only [prodsL]
      rw [List.getElem?_append_left (by rw [prodsL_len]; omega)]
      exact prodsL_at rb (by omega)
noncomputable def psAt : Nat → Prod'
  | 0 => (0, [(true, 0)])
  | j + 1 => (0, [(false, 0), (true, tokC j), (false, 0)])
theorem psOf_at {n j : Nat} {q : Prod'} (h : (psOf n)[j]? = some q) : j ≤ n ∧ q = psAt j := by
  have hl := (List.getElem?_eq_some_iff.1 h).1
  rw [psOf_len] at hl
  refine ⟨by omega, ?_⟩
  match j with
  | 0 => simpa [psOf, psAt] using h.symm
  | j + 1 =>
    simp only [psOf, List.getElem?_cons_succ, List.getElem?_map] at h
    rw [List.getElem?_range (by omega)] at h
    simpa [psAt] using h.symm

theorem right_slice {w : World} {b : Nat} {cs : List (List Value)} {arr : Array Value} {t : Nat} (h : w.heap[b]? = some (.cells arr t (0, 0))) (hc : arr.toList = cs.flatten) (hk : ∀ c ∈ cs, c.length = 2) (hne : 0 < cs.length) : SliceAt 2 w (.slice (some ⟨b, 0, none⟩) cs.length cs.length) cs := by
  refine .inr ⟨b, 0, cs.length, rfl, Nat.le_refl _, fun j c hj i u hi => ?_⟩
  have hf := flat_cell hk hj hi
  rw [← hc] at hf
  rw [Nat.zero_add]
  exact cells_at h (by simpa using hf)

theorem vs_at {ρ : Inj} {cs xs : List Value} (h : VsRel ρ cs xs) {i : Nat} {v : Value} (hi : cs[i]? = some v) : ∃ u, xs[i]? = some u ∧ VRel ρ v u := h.get i v hi

/-- The tokens' cells that the walks look at. -/
theorem rowT_nil : ∀ j, j < 11 → rowT[j * 7 + 5]? = some (.slice none 0 0) ∧ rowT[j * 7 + 6]? = some (.int .i64 1) := by
  intro j hj
  match j, hj with
  | 0, _ => exact ⟨rfl, rfl⟩
  | 1, _ => exact ⟨rfl, rfl⟩
  | 2, _ => exact ⟨rfl, rfl⟩
  | 3, _ => exact ⟨rfl, rfl⟩
  | 4, _ => exact ⟨rfl, rfl⟩
  | 5, _ => exact ⟨rfl, rfl⟩
  | 6, _ => exact ⟨rfl, rfl⟩
  | 7, _ => exact ⟨rfl, rfl⟩
  | 8, _ => exact ⟨rfl, rfl⟩
  | 9, _ => exact ⟨rfl, rfl⟩
  | 10, _ => exact ⟨rfl, rfl⟩
theorem rowT_len : rowT.length = 77 := rfl

theorem toks_of {ρ : Inj} {w : World} {c3 : Value} {pl : Pl} (h50 : ρ 50 = some pl) (ho : ORel ρ w pl (.row rowT false 7)) (hv : VRel ρ (.slice (some ⟨50, 0, none⟩) 11 11) c3) :
    ∃ ts : List (List Value), SliceAt 7 w c3 ts ∧ ts.length = 11 ∧ ∀ (j : Nat) c, ts[j]? = some c → c[5]? = some (.slice none 0 0) ∧ c[6]? = some (.int .i64 1) := by
  obtain ⟨c, el, fz, h1, _, h2, _, _, h4, _, h5, _⟩ := ho
  rw [rowT_len] at h2
  cases hv with
  | @sl _ cc _ _ k' pl' hp hsl =>
    rw [show (⟨50, 0, none⟩ : Addr).block = 50 from rfl, h50] at hp
    cases hp
    have hk : cc = ⟨pl.blk, pl.off, none⟩ ∧ 11 ≤ k' := by
      rcases hsl with ⟨rfl, h⟩ | ⟨h, _⟩
      · refine ⟨rfl, ?_⟩
        rcases h with h | ⟨_, _, _, h⟩
        · omega
        · exact h
      · omega
    obtain ⟨rfl, hk⟩ := hk
    have hcap : pl.n ≤ pl.cap := by assumption
    let xs := (c.toList.drop pl.off).take pl.n
    have hxl : xs.length = 77 := by
      have := h5.length
      rw [rowT_len] at this
      exact this.symm
    refine ⟨(List.range 11).map fun j => (xs.drop (j * 7)).take 7, .inr ⟨pl.blk, pl.off, k', by simp, by simpa using hk, fun j d hj i u hi => ?_⟩, by simp, fun j d hj => ?_⟩
    · simp only [List.getElem?_map, Option.map_eq_some_iff] at hj
      obtain ⟨j', hj', rfl⟩ := hj
      have hjl := (List.getElem?_eq_some_iff.1 hj').1
      rw [List.getElem?_range (by simpa using hjl)] at hj'
      cases hj'
      rw [List.getElem?_take] at hi
      split at hi
      · rw [List.getElem?_drop] at hi
        have h6 : xs[j * 7 + i]? = some u := hi
        have h7 : (c.toList.drop pl.off)[j * 7 + i]? = some u := by
          have : ((c.toList.drop pl.off).take pl.n)[j * 7 + i]? = some u := h6
          rw [List.getElem?_take] at this
          split at this
          · exact this
          · cases this
        rw [List.getElem?_drop] at h7
        refine cells_at h1 ?_
        rw [Nat.add_assoc]
        simpa using h7
      · cases hi
    · simp only [List.getElem?_map, Option.map_eq_some_iff] at hj
      obtain ⟨j', hj', rfl⟩ := hj
      have hjl := (List.getElem?_eq_some_iff.1 hj').1
      simp only [List.length_range] at hjl
      rw [List.getElem?_range hjl] at hj'
      cases hj'
      obtain ⟨r5, r6⟩ := rowT_nil j hjl
      obtain ⟨u5, e5, q5⟩ := vs_at h5 r5
      obtain ⟨u6, e6, q6⟩ := vs_at h5 r6
      cases q5
      cases q6
      refine ⟨?_, ?_⟩
      · rw [List.getElem?_take, if_pos (by omega), List.getElem?_drop]; exact e5
      · rw [List.getElem?_take, if_pos (by omega), List.getElem?_drop]; exact e6

theorem prods_of {w : World} {x n : Nat} {v5 : Value} {rb : Nat → Nat} (h : w.ownsRow x 73 13 v5 (n + 1) (prodsV rb n)) (hr : ∀ j, j ≤ n → w.heap[rb j]? = some (.cells (rightV j).toArray 66 (0, 0))) :
    ∃ cs : List (List Value), SliceAt 13 w v5 cs ∧ cs.length = (psOf n).length ∧
    ∀ (j : Nat) q, (psOf n)[j]? = some q → ∃ c rv, cs[j]? = some c ∧ c[1]? = some (.int .i64 q.1) ∧ c[2]? = some rv ∧ SliceAt 2 w rv (q.2.map encS) ∧ c[3]? = some (.slice none 0 0) ∧ c[4]? = some (.int .i64 1) := by
  refine ⟨prodsL rb n, own_slice (prodsL_13 rb n) (by rw [prodsL_len]; omega) (by rw [prodsL_len, prodsL_flat]; exact h), by rw [prodsL_len, psOf_len], fun j q hq => ?_⟩
  obtain ⟨hj, rfl⟩ := psOf_at hq
  have hrj := hr j hj
  clear hq
  match j, hj, hrj with
  | 0, hj, hrj => exact ⟨_, _, prodsL_at rb hj, rfl, rfl, right_slice (cs := [[.bool true, .int .i64 0]]) hrj rfl (by simp) (by simp), rfl, rfl⟩
  | j + 1, hj, hrj => exact ⟨_, _, prodsL_at rb hj, rfl, rfl, right_slice (cs := [[.bool false, .int .i64 0], [.bool true, .int .i64 (tokC j)], [.bool false, .int .i64 0]]) hrj rfl (by simp) (by simp), rfl, rfl⟩

/-! ## The levels -/
theorem lvs_of {w : World} {y : Nat} {v7 : Value} {bs : List (Nat × Nat)} {lv : List Lv} (h : w.ownsRow y 76 4 v7 lv.length (levelsV bs lv)) (hr : LvsAt w bs lv) (h0 : 0 < lv.length) (h3 : lv.length ≤ 3) :
    ∃ b7 cap b0 b1 b2, LvW w v7 lv b7 cap b0 b1 b2 := by
  rcases h.2 with ⟨_, hx⟩ | ⟨g, cap, cur, rfl, _, h1, h2, _, h4, h5⟩
  · omega
  · have hbl := hr.1
    have hin : ∀ b ∈ bs, ∃ c el fz, w.heap[b.1]? = some (.cells c el fz) := fun b hb => by
      obtain ⟨j, hj⟩ := List.getElem?_of_mem hb
      have hjl := (List.getElem?_eq_some_iff.1 hj).1
      obtain ⟨c, e1, _⟩ := hr.2 j b lv[j] hj (List.getElem?_eq_getElem (by omega))
      exact ⟨c, _, _, e1⟩
    have hgen : ∀ b0 b1 b2 : Nat, (∀ b ∈ bs, b.1 ∈ [b0, b1, b2]) → (∀ b ∈ [b0, b1, b2], ∃ c el fz, w.heap[b]? = some (.cells c el fz)) → ∃ b7 cap' b0 b1 b2, LvW w (.slice (some ⟨g, 0, none⟩) lv.length cap) lv b7 cap' b0 b1 b2 := fun b0 b1 b2 hb hc => by
      refine ⟨g, cap, b0, b1, b2, rfl, fun w' hw => ?_, ⟨cur, _, _, h1, by omega⟩, hc⟩
      have hcell : ∀ (i : Nat) u, (levelsV bs lv)[i]? = some u → w'.cell? ⟨g, i, none⟩ = some u := fun i u hi => by
        rw [← h5, List.getElem?_take] at hi
        split at hi
        · exact cells_at ((hw g (by simp)).trans h1) (by simpa using hi)
        · cases hi
      refine ⟨(bs.zip lv).map fun x => [.slice (some ⟨x.1.1, 0, none⟩) x.2.1.length x.1.2, .int .i64 x.2.2, .slice none 0 0, .int .i64 1], .inr ⟨g, 0, cap, by simp [hbl], by simpa [hbl] using h2, fun j c hj i u hi => ?_⟩, by simp [hbl], fun j a ha => ?_⟩
      · rw [Nat.zero_add]
        refine hcell _ _ ?_
        have hfl : ∀ {bs : List (Nat × Nat)} {lv : List Lv}, levelsV bs lv = ((bs.zip lv).map fun x => [.slice (some ⟨x.1.1, 0, none⟩) x.2.1.length x.1.2, .int .i64 x.2.2, .slice none 0 0, .int .i64 1]).flatten := by
          intro bs
          induction bs with
          | nil => intro lv; simp [levelsV]
          | cons b bs ih => intro lv; cases lv with
            | nil => simp [levelsV]
            | cons a lv => simp [levelsV, ih]
        rw [hfl]
        exact flat_cell (by simp only [List.mem_map]; rintro c ⟨x, _, rfl⟩; rfl) hj hi
      · have hjl := (List.getElem?_eq_some_iff.1 ha).1
        have hb' : bs[j]? = some bs[j] := List.getElem?_eq_getElem (by omega)
        obtain ⟨c, e1, e2, e3⟩ := hr.2 j _ a hb' ha
        refine ⟨.slice (some ⟨bs[j].1, 0, none⟩) a.1.length bs[j].2, ?_, ?_⟩
        · have hz : (bs.zip lv)[j]? = some (bs[j], a) := List.getElem?_zip_eq_some.2 ⟨hb', ha⟩
          simp only [List.getElem?_map, hz, Option.map_some]
        · rcases Nat.eq_zero_or_pos a.1.length with h0 | h0
          · refine .inl ⟨by rw [List.eq_nil_of_length_eq_zero h0]; rfl, _, _, by rw [h0]⟩
          · refine .inr ⟨bs[j].1, 0, bs[j].2, by simp, by simpa using e3, fun q c' hq i u hi => ?_⟩
            simp only [List.getElem?_map, Option.map_eq_some_iff] at hq
            obtain ⟨p, hp, rfl⟩ := hq
            match i, hi with
            | 0, hi =>
              simp at hi
              subst hi
              have e4 : (intsV a.1)[q]? = some (.int .i64 (p : Nat)) := by simp [intsV, hp]
              rw [← e2, List.getElem?_take] at e4
              split at e4
              · have := cells_at ((hw bs[j].1 (by have := hb _ (List.mem_of_getElem? hb'); simp at this ⊢; exact .inr this)).trans e1) (i := q) (by simpa using e4)
                simpa using this
              · cases e4
            | i + 1, hi => simp at hi
    match bs, hbl, hin, hgen with
    | [], hbl, _, _ => simp at hbl; omega
    | [x], _, hin, hgen => exact hgen x.1 x.1 x.1 (by simp) (by simpa using hin)
    | [x, z], _, hin, hgen => exact hgen x.1 z.1 z.1 (by simp) (by simpa using hin)
    | [x, z, t], _, hin, hgen => exact hgen x.1 z.1 t.1 (by simp) (by simpa using hin)
    | _ :: _ :: _ :: _ :: _, hbl, _, _ => simp at hbl; omega
end Go.Pri
end

section
/-
  The grammar of the operators, as the closed calls see it.
-/
namespace Go.Pri
open Go Go.Abs Go.Proofs Go.RowKit
set_option maxRecDepth 100000

noncomputable def rhoF (ρ : Inj) (n : Nat) (rb : Nat → Nat) (pP p7 q0 q1 q2 q3 : Pl) : Inj := fun i =>
  if i < 100 then ρ i else if i = 100 then some { blk := rb 0, off := 0, n := 2, cap := 2, esz := 0 } else
  if i ≤ 100 + n then some { blk := rb (i - 100), off := 0, n := 6, cap := 6, esz := 0 } else
  if i = 110 then some pP else if i = 120 then some p7 else if i = 121 then some q0 else if i = 122 then some q1 else if i = 123 then some q2 else if i = 124 then some q3 else none

theorem mem_rights : ∀ {n i : Nat} {cs : List Value} {esz : Nat}, (i, cs, esz) ∈ rightsC n → ∃ k, k < n ∧ i = 101 + k ∧ cs = rightC k ∧ esz = 0
  | 0, _, _, _, h => by simp [rightsC] at h
  | n + 1, i, cs, esz, h => by
    simp only [rightsC, List.mem_append, List.mem_singleton, Prod.mk.injEq] at h
    rcases h with h | ⟨rfl, rfl, rfl⟩
    · obtain ⟨k, h1, h2⟩ := mem_rights h
      exact ⟨k, by omega, h2⟩
    · exact ⟨n, by omega, rfl, rfl, rfl⟩

theorem vs_prod {ρ : Inj} {s : ByteArray} {id b len : Nat} {pl : Pl} (hp : ρ id = some pl) (hb : pl.blk = b) (ho : pl.off = 0) : VsRel ρ (prodC (.string s) id len) (prodV (.string s) b len) := by
  subst hb
  refine .cons (.string _) (.cons (.int _ _) (.cons (.sl (pl := pl) hp (.inl ⟨by simp [ho], .inl rfl⟩)) (.cons (.sl0 _ _) (.cons (.int _ _) (.cons (.bool _) (.cons (.int _ _) (.cons (.sl0 _ _) (.cons (.bool _) (.cons (.int _ _) (.cons (.int _ _) (.cons (.int _ _) (.cons (.int _ _) .nil))))))))))))

theorem name_str' (i : Nat) : ∃ s, nameC i = .string s := by
  match i with
  | 0 => exact ⟨_, rfl⟩
  | 1 => exact ⟨_, rfl⟩
  | 2 => exact ⟨_, rfl⟩
  | k + 3 => exact ⟨_, rfl⟩
theorem vs_prods {ρ : Inj} {rb : Nat → Nat} (h0 : ∃ pl, ρ 100 = some pl ∧ pl.blk = rb 0 ∧ pl.off = 0) : ∀ {n : Nat}, (∀ k, k < n → ∃ pl, ρ (101 + k) = some pl ∧ pl.blk = rb (k + 1) ∧ pl.off = 0) → VsRel ρ (prodsC n) (prodsV rb n)
  | 0, _ => by
    obtain ⟨pl, h1, h2, h3⟩ := h0
    exact vs_prod h1 h2 h3
  | n + 1, h => by
    have ih := vs_prods (rb := rb) h0 (n := n) fun k hk => h k (by omega)
    obtain ⟨pl, h1, h2, h3⟩ := h n (by omega)
    obtain ⟨s, hs⟩ := name_str' n
    refine All2.append ih ?_
    rw [hs]
    exact vs_prod h1 h2 h3

theorem row_at {ρ : Inj} {w : World} {b t : Nat} {cs : List Value} (h : w.heap[b]? = some (.cells cs.toArray t (0, 0))) (hv : VsRel ρ cs cs) {m : Nat} (hm : cs.length = m) : ORel ρ w { blk := b, off := 0, n := m, cap := m, esz := 0 } (.row cs false 0) := by
  subst hm
  refine ⟨_, _, _, h, fun h => (by cases h), rfl, rfl, Nat.le_refl _, by simp, fun _ => rfl, ?_, fun _ => trivial⟩
  simpa using hv

theorem gram_of {w : World} {g : Value} {n : Nat} {lv : List Lv} (hraw : GRaw w g n lv) (hok : LvOK n lv) (htab : TabAt w) :
    ∃ (a0 : Option Addr) (k0 : Nat) (c3 c4 c5 c7 : Value) (ρ : Inj) (b7 cap b0 b1 b2 : Nat), g = .agg #[.slice a0 2 k0, .slice none 0 0, .int .i64 1, c3, c4, c5, .int .i64 0, c7, .slice none 0 0] ∧
      GramW w n lv g c7 ρ b7 cap b0 b1 b2 ∧ GramAt w c3 c5 11 (psOf n) ∧ (∃ a n' c, c4 = .slice a n' c) ∧ (∃ a n' c, c7 = .slice a n' c) := by
  obtain ⟨a0, a3, a4, k0, k3, k4, v5, v7, ρ, bs, rb, x, y, rfl, v0, v3, v4, hdom, hzero, hrows, hown5, hrt, hown7, hlvs⟩ := hraw
  obtain ⟨hn1, hn4, hl1, hl3⟩ := hok.few4
  obtain ⟨b7, cap, b0, b1, b2, hlev⟩ := lvs_of hown7 hlvs (by omega) hl3
  obtain ⟨pl50, e50, o50⟩ := hrows 50 rowT 7 (by simp [rowsB])
  have htoks := toks_of e50 o50 v3
  have hprods := prods_of hown5 hrt
  rcases hown5.2 with ⟨_, hx⟩ | ⟨g5, cap5, cur5, hv5, _, h51, h52, _, h53, h54⟩
  · omega
  subst hv5
  have hlenC : ∀ m, (prodsC m).length = (m + 1) * 13 := fun m => by
    induction m with
    | zero => rfl
    | succ m ih => simp [prodsC, prodC, ih]; omega
  let pP : Pl := { blk := g5, off := 0, n := (n + 1) * 13, cap := cap5 * 13, esz := 13 }
  let ρ' := rhoF ρ n rb pP (pin7 w b7 cap) (pin0 w b0) (pin0 w b1) (pin0 w b2) (pin0 w 0)
  have hext : Ext ρ ρ' := fun i pl hi => by
    have := hdom i pl hi
    show rhoF ρ n rb pP _ _ _ _ _ i = some pl
    unfold rhoF
    rw [if_pos this]
    exact hi
  have r100 : ρ' 100 = some { blk := rb 0, off := 0, n := 2, cap := 2, esz := 0 } := by simp [ρ', rhoF]
  have r101 : ∀ k, k < n → ρ' (101 + k) = some { blk := rb (k + 1), off := 0, n := 6, cap := 6, esz := 0 } := fun k hk => by
    simp only [ρ', rhoF]
    rw [if_neg (by omega), if_neg (by omega), if_pos (by omega)]
    have : 101 + k - 100 = k + 1 := by omega
    rw [this]
  have rx : ∀ i, 105 ≤ i → ρ' i = (if i = 110 then some pP else if i = 120 then some (pin7 w b7 cap) else if i = 121 then some (pin0 w b0) else if i = 122 then some (pin0 w b1) else if i = 123 then some (pin0 w b2) else if i = 124 then some (pin0 w 0) else none) := fun i hi => by
    simp only [ρ', rhoF]
    rw [if_neg (by omega), if_neg (by omega), if_neg (by omega)]
  have r110 : ρ' 110 = some pP := by rw [rx 110 (by omega)]; simp
  have r120 : ρ' 120 = some (pin7 w b7 cap) := by rw [rx 120 (by omega)]; simp
  have r121 : ρ' 121 = some (pin0 w b0) := by rw [rx 121 (by omega)]; simp
  have r122 : ρ' 122 = some (pin0 w b1) := by rw [rx 122 (by omega)]; simp
  have r123 : ρ' 123 = some (pin0 w b2) := by rw [rx 123 (by omega)]; simp
  have r124 : ρ' 124 = some (pin0 w 0) := by rw [rx 124 (by omega)]; simp
  have hpin0 : ∀ b, (∃ c el fz, w.heap[b]? = some (.cells c el fz)) → ORel ρ' w (pin0 w b) (.row [] false 0) := fun b ⟨c, el, fz, hb⟩ =>
    ⟨c, el, fz, hb, fun h => (by cases h), rfl, rfl, Nat.le_refl _, by simp [pin0], fun _ => rfl, .nil, fun _ => hb⟩
  refine ⟨some a0, k0, _, _, _, v7, ρ', b7, cap, b0, b1, b2, rfl, ⟨hok, fun i pl hi => ?_, fun i cs esz hi => ?_, ?_, ?_, fun p hp => ?_, htab, hlev⟩, ⟨hprods, htoks⟩, ⟨_, _, _, rfl⟩, (by obtain ⟨a, c, h⟩ := own_form hown7; exact ⟨a, _, c, h⟩)⟩
  · by_cases h1 : i < 100
    · omega
    · by_cases h2 : i < 105
      · omega
      · rw [rx i (by omega)] at hi
        repeat' split at hi
        all_goals first | omega | cases hi
  · simp only [rowsG, List.mem_append, List.mem_cons, List.not_mem_nil, or_false] at hi
    have hold : (i, cs, esz) ∈ rowsB → ∃ pl, ρ' i = some pl ∧ ORel ρ' w pl (.row cs false esz) := fun h => by
      obtain ⟨pl, e1, e2⟩ := hrows i cs esz h
      exact ⟨pl, hext _ _ e1, e2.mono hext rfl⟩
    rcases hi with (hi | hi | hi | hi | hi | hi | hi | hi) | hi | hi | hi | hi | hi | hi | hi
    · exact hold (by rw [hi]; simp [rowsB])
    · exact hold (by rw [hi]; simp [rowsB])
    · exact hold (by rw [hi]; simp [rowsB])
    · exact hold (by rw [hi]; simp [rowsB])
    · exact hold (by rw [hi]; simp [rowsB])
    · exact hold (by rw [hi]; simp [rowsB])
    · exact hold (by rw [hi]; simp [rowsB])
    · cases hi
      exact ⟨_, r100, row_at (hrt 0 (by omega)) (.cons (.bool _) (.cons (.int _ _) .nil)) rfl⟩
    · obtain ⟨k, hk, rfl, rfl, rfl⟩ := mem_rights hi
      exact ⟨_, r101 k hk, row_at (hrt (k + 1) (by omega)) (.cons (.bool _) (.cons (.int _ _) (.cons (.bool _) (.cons (.int _ _) (.cons (.bool _) (.cons (.int _ _) .nil)))))) rfl⟩
    · cases hi
      refine ⟨_, r110, cur5, _, _, h51, fun h => (by cases h), (hlenC n).symm, rfl, ?_, ?_, fun h => (by cases h), ?_, fun _ => trivial⟩
      · exact Nat.mul_le_mul_right _ h52
      · show 0 + cap5 * 13 ≤ cur5.size
        omega
      · show VsRel ρ' (prodsC n) ((cur5.toList.drop 0).take ((n + 1) * 13))
        rw [List.drop_zero, h54]
        exact vs_prods ⟨_, r100, rfl, rfl⟩ fun k hk => ⟨_, r101 k hk, rfl, rfl⟩
    · cases hi
      obtain ⟨c, el, fz, o1, o2⟩ := hlev.o7
      exact ⟨_, r120, c, el, fz, o1, fun h => (by cases h), rfl, rfl, Nat.zero_le _, by simpa [pin7] using o2, fun h => (by cases h), .nil, fun _ => o1⟩
    · cases hi; exact ⟨_, r121, hpin0 b0 (hlev.os b0 (by simp))⟩
    · cases hi; exact ⟨_, r122, hpin0 b1 (hlev.os b1 (by simp))⟩
    · cases hi; exact ⟨_, r123, hpin0 b2 (hlev.os b2 (by simp))⟩
    · cases hi
      obtain ⟨el, fz, h⟩ := htab
      exact ⟨_, r124, hpin0 0 ⟨_, _, _, h⟩⟩
  · obtain ⟨pl, e1, e2⟩ := hzero
    exact ⟨pl, hext _ _ e1, e2⟩
  · have hall : ∀ (l l' : List Value), VsRel ρ' l l' → VRel ρ' (.agg l.toArray) (.agg l'.toArray) := fun l l' h => .agg (by simpa using h.length) fun i v v' h1 h2 => by
      obtain ⟨u, e1, e2⟩ := h.get i v (by simpa using h1)
      have : l'[i]? = some v' := by simpa using h2
      rw [this] at e1
      cases e1
      exact e2
    refine hall _ _ (.cons (v0.mono hext) (.cons (.sl0 _ _) (.cons (.int _ _) (.cons (v3.mono hext) (.cons (v4.mono hext) (.cons (.sl r110 (.inl ⟨rfl, .inr ⟨?_, ?_, ?_, h52⟩⟩)) (.cons (.int _ _) (.cons ?_ (.cons (.sl0 _ _) .nil)))))))))
    · show 0 < 13; omega
    · show 0 + (n + 1) * 13 = (n + 1) * 13; omega
    · show 0 + cap5 * 13 = cap5 * 13; omega
    · rw [hlev.val]
      refine .sl r120 (.inl ⟨rfl, .inr ⟨?_, ?_, ?_, Nat.zero_le _⟩⟩)
      · show 0 < 4; omega
      · rfl
      · show 0 + cap * 4 = cap * 4; omega
  · simp only [pinsOf, List.mem_cons, List.not_mem_nil, or_false] at hp
    rcases hp with rfl | rfl | rfl | rfl | rfl
    · exact r120
    · exact r121
    · exact r122
    · exact r123
    · exact r124
end Go.Pri
end

section
/-
  Grammar: its contract.
-/
namespace Go.Pri
open Go Go.Abs Go.Proofs Go.RowKit

/-- The grammar of n operators with these levels, as all that follows asks it. -/
def GOK (w : World) (g : Value) (n : Nat) (lv : List Lv) : Prop := LvOK n lv ∧ ∃ (a0 : Option Addr) (k0 : Nat) (c3 c4 c5 c7 : Value), g = .agg #[.slice a0 2 k0, .slice none 0 0, .int .i64 1, c3, c4, c5, .int .i64 0, c7, .slice none 0 0] ∧
  Valid w g ∧ ConfAt w g (rulesF lv) ∧ GramAt w c3 c5 11 (psOf n) ∧ (∃ a n' c, c4 = .slice a n' c) ∧ (∃ a n' c, c7 = .slice a n' c)
theorem GOK.old {w w' : World} {g : Value} {n : Nat} {lv : List Lv} (h : GOK w g n lv) (ho : Old w w') : GOK w' g n lv := by
  obtain ⟨h0, a0, k0, c3, c4, c5, c7, h1, h2, h3, h4, h5⟩ := h
  exact ⟨h0, a0, k0, c3, c4, c5, c7, h1, h2.old ho, h3.old ho, h4.old ho, h5⟩

theorem grammar5 (m l0 l1 l2 l3 s0 s1 s2 : Int) (w : World) (hm : 0 ≤ m ∧ m ≤ 255) (hL : ∀ i, 0 ≤ lvN l0 l1 l2 l3 i ∧ lvN l0 l1 l2 l3 i ≤ 255) (hS : ∀ k, 0 ≤ asN s0 s1 s2 k ∧ asN s0 s1 s2 k ≤ 255) (htab : TabAt w) :
    Calls Tryz.prog 5 #[.agg #[.int .u8 m, .int .u8 l0, .int .u8 l1, .int .u8 l2, .int .u8 l3, .int .u8 s0, .int .u8 s1, .int .u8 s2]] w fun e w' => ∃ g, e = .returned g ∧ Old w w' ∧
      GOK w' g (1 + m % 4).toNat (lvAll (1 + m % 4).toNat (lvN l0 l1 l2 l3) (asN s0 s1 s2) 3) := by
  refine (gram5 m l0 l1 l2 l3 s0 s1 s2 w hm hL hS htab).mono ?_
  rintro e w' ⟨g, rfl, ho, hraw⟩
  have hok := lvOK_all (n := (1 + m % 4).toNat) (lvN l0 l1 l2 l3) (asN s0 s1 s2) (by omega) (by omega)
  obtain ⟨a0, k0, c3, c4, c5, c7, ρ, b7, cap, b0, b1, b2, rfl, hG, hA, hF⟩ := gram_of hraw hok (htab.old ho)
  exact ⟨_, rfl, ho, hok, a0, k0, c3, c4, c5, c7, rfl, hG.valid, hG.conf hA, hA, hF⟩
end Go.Pri
#print axioms Go.Pri.grammar5
end
