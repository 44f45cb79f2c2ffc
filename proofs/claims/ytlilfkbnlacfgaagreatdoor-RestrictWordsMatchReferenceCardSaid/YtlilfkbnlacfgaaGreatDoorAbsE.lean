/-
  Operations, more: new objects, slices, append, copy.
-/
import Derived.Test.YtlilfkbnlacfgaaGreatDoorAbsD
namespace Go.Abs
variable {e : Env}

def Gives (b : Nat) (P : Program) (ρ : Inj) (h : AHeap) (w : World) (s : Sem Value) (v : Value) (h' : AHeap) : Prop :=
  ∃ v' w' ρ', s.run P w = .ok v' w' ∧ VRel ρ' v v' ∧ WRel ρ' h' w' ∧ Fr b ρ h w ρ' h' w'

theorem Gives.same {b : Nat} {P : Program} {ρ : Inj} {h : AHeap} {w : World} {s : Sem Value} {v v' : Value} (x : WRel ρ h w) (hr : s.run P w = .ok v' w) (hv : VRel ρ v v') : Gives b P ρ h w s v h :=
  ⟨v', w, ρ, hr, hv, x, Fr.refl _ _ _ _⟩

theorem wrap_small {n : Int} (h0 : 0 ≤ n) (h1 : n ≤ 1099511627776) : IntKind.i64.wrap n = n := by
  have h2 : n % (2 ^ 64 : Int) = n := Int.emod_eq_of_lt h0 (by omega)
  have h3 : ¬ n ≥ (2 ^ 63 : Int) := by omega
  show (if (true && decide (n % (2 ^ 64 : Int) ≥ (2 ^ 63 : Int))) = true then n % (2 ^ 64 : Int) - 2 ^ 64 else n % (2 ^ 64 : Int)) = n
  simp only [h2, h3, decide_false, Bool.and_false, Bool.false_eq_true, if_false]

theorem of_bind {α β : Type} {x : Option α} {f : α → Option β} {r : β} (h : x.bind f = some r) : ∃ a, x = some a ∧ f a = some r := by
  cases x with
  | none => cases h
  | some a => exact ⟨a, rfl, h⟩
theorem of_i64 {v : Value} {n : Int} (h : i64Of v = some n) : v = .int .i64 n := by
  unfold i64Of at h
  split at h
  · cases h; rfl
  · cases h
theorem of_int {v : Value} {n : Int} (h : intOf v = some n) : ∃ k, v = .int k n := by
  unfold intOf at h
  split at h
  · cases h; exact ⟨_, rfl⟩
  · cases h
theorem of_addr {v : Value} {a : Addr} (h : addrA v = some a) : v = .pointer (some a) := by
  unfold addrA at h
  split at h
  · cases h; rfl
  · cases h
theorem VRel.int_l {ρ : Inj} {k : IntKind} {n : Int} {v : Value} (h : VRel ρ (.int k n) v) : v = .int k n := by cases h; rfl
theorem VRel.bool_l {ρ : Inj} {b : Bool} {v : Value} (h : VRel ρ (.bool b) v) : v = .bool b := by cases h; rfl
theorem VRel.ptr_l {ρ : Inj} {a : Addr} {v : Value} (h : VRel ρ (.pointer (some a)) v) : ∃ pl, ρ a.block = some pl ∧ v = .pointer (some ⟨pl.blk, pl.off + a.off, none⟩) := by cases h with | ptr h => exact ⟨_, h, rfl⟩

theorem run_newRow (P : Program) (w : World) (t : TypeId) (cs : Array Value) : (newRow t cs).run P w = .ok ⟨w.heap.size, 0, none⟩ (World.add w (.cells cs t)) := rfl
theorem run_newVar (P : Program) (w : World) (t : TypeId) (v : Value) : (newVar t v).run P w = .ok ⟨w.heap.size, 0, none⟩ (World.add w (.cells v.cells t)) := rfl

theorem alloc_rel (he : e.Ok) {b id n : Nat} {ρ : Inj} {h h' : AHeap} {w : World} {t : Tr Value} {a : Array Value} {ds : List Deferred} (hg : Gl e ρ) (ht : TRel ρ t n a) (x : WRel ρ h w)
    {o : Oper} {ob : AObj} {f : Nat → Value} (hA : allocA e t o.op = some (ob, f)) (s : Slot b ρ h id ob h') :
    ∃ v' w' ρ', (execOp (Act.mk a ds).eval o).run e.P w = .ok (.value v') w' ∧ VRel ρ' (f id) v' ∧ WRel ρ' h' w' ∧ Fr b ρ h w ρ' h' w' ∧ ∀ j, j ≠ id → ρ' j = ρ j := by
  obtain ⟨dst, op, ty, pos, after, guard⟩ := o
  cases op with
  | alloc elem =>
    simp only [allocA] at hA
    cases hz : e.zero elem with
    | none => simp [hz] at hA
    | some z =>
      simp only [hz, Option.some.injEq, Prod.mk.injEq] at hA
      obtain ⟨rfl, rfl⟩ := hA
      obtain ⟨ρ', pl, g1, g2, g3, _, _, _, g4, g5⟩ := new_row x s (he.zeroRel hz ρ) elem
      refine ⟨_, _, ρ', ?_, oref g1 g3, g4, g5⟩
      simp only [execOp, Instr.alloc, Sem.run_bind, he.runZero hz, Result.andThen_ok, run_newVar, Sem.run_pure, g2]
  | box elem y =>
    simp only [allocA] at hA
    cases hy : opnd e t y with
    | none => simp [hy] at hA
    | some v =>
      simp only [hy, Option.some.injEq, Prod.mk.injEq] at hA
      obtain ⟨rfl, rfl⟩ := hA
      obtain ⟨ρ', pl, g1, g2, g3, _, _, _, g4, g5⟩ := new_row x s (opnd_rel hg ht hy ds).cells elem
      refine ⟨_, _, ρ', ?_, oref g1 g3, g4, g5⟩
      simp only [execOp, Instr.box, Sem.run_bind, Result.andThen_ok, run_newVar, Sem.run_pure, g2]
  | buildSlice st len parts =>
    simp only [allocA] at hA
    cases hu : e.under st with
    | none => simp [hu] at hA
    | some d =>
      cases d with
      | slice elem =>
        simp only [hu] at hA
        cases hp : partsA e t parts.toList with
        | none => simp [hp] at hA
        | some ps =>
          simp only [hp] at hA
          cases hs : e.size elem with
          | none => simp [hs] at hA
          | some sz =>
            cases hz : e.zero elem with
            | none => simp [hs, hz] at hA
            | some z =>
              simp only [hs, hz] at hA
              obtain ⟨hb, hA⟩ := of_bif hA
              simp only [Bool.and_eq_true] at hb
              obtain ⟨⟨hb1, hb2⟩, hb3⟩ := hb
              have hb1 := Nat.le_of_ble_eq_true hb1
              have hb2 := Nat.eq_of_beq_eq_true hb2
              have hb3 : 0 < sz := Nat.le_of_ble_eq_true hb3
              cases hf : fillA (fun i => some (i * sz, sz)) (zerosA z.cells.toList (len * sz)) ps with
              | none => simp [hf] at hA
              | some cs =>
                simp only [hf, Option.some.injEq, Prod.mk.injEq] at hA
                obtain ⟨rfl, rfl⟩ := hA
                have hprel := parts_rel hg ht ds hp
                have hzr : VsRel ρ (zerosA z.cells.toList (len * sz)) (((Array.range (len * sz)).map ((if len * sz = 0 then #[] else z.cells)[· % (if len * sz = 0 then #[] else z.cells).size]!)).toList) := by
                  by_cases h0 : len * sz = 0
                  · simp only [h0, if_true]
                    simpa [zerosA] using (All2.nil : VsRel ρ [] [])
                  · simp only [h0, if_false]
                    have := zeros_rel (he.zeroRel hz ρ) (len * sz) (by omega)
                    simpa using this
                obtain ⟨cs', g6, g7⟩ := fill_rel (place' := fun i => some (i * sz, sz)) (ps' := (parts.map fun (i, y) => (i, (Act.mk a ds).eval y)).toList) (fun _ _ h => h) hzr (by simpa using hprel) hf
                obtain ⟨ρ', pl, g1, g2, g3, g4n, g4c, g4e, g4, g5⟩ := new_row x s g7 elem
                refine ⟨_, _, ρ', ?_, .sl (a := ⟨id, 0, none⟩) (c := ⟨w.heap.size, 0, none⟩) (k' := len) g1 (.inl ⟨by simp [g2, g3], .inl rfl⟩), g4, g5⟩
                have hn : ¬ len * sz > 2 ^ 24 := by omega
                simp only [execOp, Instr.buildSlice, Sem.run_bind, he.runUnder hu, Result.andThen_ok, he.runSize hs, hn, if_false, Sem.run_pure]
                by_cases h0 : len * sz = 0
                · simp only [h0, if_true, Sem.run_pure, Result.andThen_ok] at g6 ⊢
                  simp only [g6, Sem.run_bind, run_newRow, Result.andThen_ok, Sem.run_pure]
                · simp only [h0, if_false, Sem.run_bind, he.runZero hz, Sem.run_pure, Result.andThen_ok] at g6 ⊢
                  simp only [g6, Sem.run_bind, run_newRow, Result.andThen_ok, Sem.run_pure]
      | _ => simp [hu] at hA
  | makeMap mt r =>
    cases r with
    | some r => simp [allocA] at hA
    | none =>
      simp only [allocA, Option.some.injEq, Prod.mk.injEq] at hA
      obtain ⟨rfl, rfl⟩ := hA
      obtain ⟨ρ', pl, g1, g2, g3, g4, g5⟩ := new_obj x s (.map #[] 0) rfl rfl (fun ρ' w' pl _ h0 hw => ⟨h0, #[], hw, .nil⟩)
      refine ⟨_, _, ρ', ?_, VRel.map g1, g4, g5⟩
      rw [g2]
      rfl
  | makeSlice st l c =>
    simp only [allocA] at hA
    cases hu : e.under st with
    | none => simp [hu] at hA
    | some d =>
      cases d with
      | slice elem =>
        cases hl : (opnd e t l).bind i64Of with
        | none => simp [hu, hl] at hA
        | some lv =>
          cases hc : (opnd e t c).bind i64Of with
          | none => simp [hu, hl, hc] at hA
          | some cv =>
              simp only [hu, hl, hc] at hA
              obtain ⟨lv', hl, hl'⟩ := of_bind hl
              obtain ⟨cv', hc, hc'⟩ := of_bind hc
              have hl' := of_i64 hl'; subst hl'
              have hc' := of_i64 hc'; subst hc'
              cases hs : e.size elem with
              | none => simp [hs] at hA
              | some sz =>
                cases hz : e.zero elem with
                | none => simp [hs, hz] at hA
                | some z =>
                  cases hby : e.bytes elem with
                  | none => simp [hs, hz, hby] at hA
                  | some by' =>
                    simp only [hs, hz, hby] at hA
                    obtain ⟨hb, hA⟩ := of_bif hA
                    simp only [Bool.and_eq_true, decide_eq_true_eq] at hb
                    obtain ⟨⟨⟨⟨⟨hb1, hb2⟩, hb3⟩, hb4⟩, hb5⟩, hb6⟩ := hb
                    have hb4 := Nat.le_of_ble_eq_true hb4
                    have hb5 := Nat.eq_of_beq_eq_true hb5
                    have hb6 : 0 < sz := Nat.le_of_ble_eq_true hb6
                    simp only [Option.some.injEq, Prod.mk.injEq] at hA
                    obtain ⟨rfl, rfl⟩ := hA
                    have rl : VRel ρ (.int .i64 lv) ((Act.mk a ds).eval l) := opnd_rel hg ht hl ds
                    have rc : VRel ρ (.int .i64 cv) ((Act.mk a ds).eval c) := opnd_rel hg ht hc ds
                    have el := rl.int_l
                    have ec := rc.int_l
                    have hzr : VsRel ρ (zerosA z.cells.toList (cv.toNat * sz)) (((Array.range (cv.toNat * sz)).map ((if cv.toNat * sz = 0 then #[] else z.cells)[· % (if cv.toNat * sz = 0 then #[] else z.cells).size]!)).toList) := by
                      by_cases h0 : cv.toNat * sz = 0
                      · simp only [h0, if_true]
                        simpa [zerosA] using (All2.nil : VsRel ρ [] [])
                      · simp only [h0, if_false]
                        have := zeros_rel (he.zeroRel hz ρ) (cv.toNat * sz) (by omega)
                        simpa using this
                    obtain ⟨ρ', pl, g1, g2, g3, g4n, g4c, g4e, g4, g5⟩ := new_row x s hzr elem
                    refine ⟨_, _, ρ', ?_, .sl (a := ⟨id, 0, none⟩) (c := ⟨w.heap.size, 0, none⟩) (k' := cv.toNat) g1 (.inl ⟨by simp [g2, g3], .inl rfl⟩), g4, g5⟩
                    obtain ⟨i, hi1, hi2⟩ := he.runBytes hby w
                    have w1 : IntKind.i64.wrap lv = lv := wrap_small hb1 (by omega)
                    have w2 : IntKind.i64.wrap cv = cv := wrap_small (by omega) hb3
                    have hcv : (cv.toNat : Int) = cv := Int.toNat_of_nonneg (by omega)
                    have hbig : ¬ ((by' : Int) * cv > 2 ^ 48) := by
                      have := Int.ofNat_le.2 hb4
                      rw [Int.natCast_mul, hcv] at this
                      omega
                    have c1 : decide (cv < 0) = false := by simp; omega
                    have c2 : decide ((by' : Int) * cv > 2 ^ 48) = false := by simpa using hbig
                    have c3 : decide (lv < 0) = false := by simp; omega
                    have c4 : decide (lv > cv) = false := by simp; omega
                    simp only [execOp, Instr.makeSlice, Sem.run_bind, he.runUnder hu, Result.andThen_ok, el, ec, asInt, asIntOf, Sem.run_pure, hi1, hi2, w1, w2, c1, c2, c3, c4, Bool.or_false, Bool.false_eq_true, if_false, run_askRoom, he.runSize hs]
                    by_cases h0 : cv.toNat * sz = 0
                    · simp only [h0, if_true, Sem.run_pure, Result.andThen_ok, Sem.run_bind, run_newRow]
                    · simp only [h0, if_false, Sem.run_bind, he.runZero hz, Sem.run_pure, Result.andThen_ok, run_newRow]
      | _ => simp [hu] at hA
  | _ => simp [allocA] at hA

end Go.Abs
