/-
  An operation looks at its own slots alone; what reads, lays nothing.
-/
import Derived.Test.YtlilfkbnlacfgaaGreatDoorAbsM
namespace Go.Abs
variable {e : Env}

def Same (t t' : Tr Value) (xs : List Operand) : Prop := ∀ d, Operand.tmp d ∈ xs → t.get d = t'.get d
theorem Same.sub {t t' : Tr Value} {xs ys : List Operand} (h : Same t t' ys) (hs : ∀ x ∈ xs, x ∈ ys) : Same t t' xs := fun d hd => h d (hs _ hd)

theorem opnd_congr {t t' : Tr Value} {o : Operand} {xs : List Operand} (h : Same t t' xs) (ho : o ∈ xs) : opnd e t o = opnd e t' o := by
  cases o with
  | tmp i => exact h i ho
  | _ => rfl

theorem opnds_congr {t t' : Tr Value} : ∀ {xs : List Operand}, Same t t' xs → opnds e t xs = opnds e t' xs
  | [], _ => rfl
  | o :: r, h => by
    simp only [opnds, opnd_congr (e := e) h (List.mem_cons_self ..), opnds_congr (xs := r) (h.sub fun x hx => List.mem_cons_of_mem _ hx)]

theorem partsA_congr {t t' : Tr Value} : ∀ {xs : List (Nat × Operand)}, Same t t' (xs.map (·.2)) → partsA e t xs = partsA e t' xs
  | [], _ => rfl
  | (i, o) :: r, h => by
    have h1 : Same t t' (o :: r.map (·.2)) := h
    simp only [partsA, opnd_congr (e := e) h1 (List.mem_cons_self ..), partsA_congr (xs := r) (h1.sub fun x hx => List.mem_cons_of_mem _ hx)]

theorem allocA_congr {t t' : Tr Value} {op : Op} (h : Same t t' op.operands.toList) : allocA e t op = allocA e t' op := by
  cases op with
  | box ty x => simp only [allocA, opnd_congr (e := e) h (o := x) (by simp [Op.operands])]
  | buildSlice st len parts =>
    have : Same t t' (parts.toList.map (·.2)) := h.sub fun x hx => by simpa [Op.operands] using hx
    simp only [allocA, partsA_congr (e := e) this]
  | makeSlice st l c => simp only [allocA, opnd_congr (e := e) h (o := l) (by simp [Op.operands]), opnd_congr (e := e) h (o := c) (by simp [Op.operands])]
  | makeMap t r => cases r <;> rfl
  | _ => rfl

theorem opA_congr {h : AHeap} {t t' : Tr Value} {op : Op} (hs : Same t t' op.operands.toList) : opA e h t op = opA e h t' op := by
  have O : ∀ o, o ∈ op.operands.toList → opnd e t o = opnd e t' o := fun o ho => opnd_congr hs ho
  have A := allocA_congr (e := e) hs
  cases op with
  | move x => simp only [opA, O x (by simp [Op.operands])]
  | assign x => simp only [opA, O x (by simp [Op.operands])]
  | pick c a b => simp only [opA, O c (by simp [Op.operands]), O a (by simp [Op.operands]), O b (by simp [Op.operands])]
  | build ty parts =>
    have : Same t t' (parts.toList.map (·.2)) := hs.sub fun x hx => by simpa [Op.operands] using hx
    simp only [opA, partsA_congr (e := e) this]
  | load ty a => simp only [opA, O a (by simp [Op.operands])]
  | store ty a x => simp only [opA, O a (by simp [Op.operands]), O x (by simp [Op.operands])]
  | nilCheck x => simp only [opA, O x (by simp [Op.operands])]
  | binOp op ty x y cp => simp only [opA, O x (by simp [Op.operands]), O y (by simp [Op.operands])]
  | unOp op ty x => simp only [opA, O x (by simp [Op.operands])]
  | convert s d x => simp only [opA, O x (by simp [Op.operands])]
  | makeInterface ty x => simp only [opA, O x (by simp [Op.operands])]
  | makeFunc fn first cap =>
    have h1 : Same t t' first.toList := hs.sub fun x hx => by simp [Op.operands]; exact .inl (by simpa using hx)
    have h2 : Same t t' cap.toList := hs.sub fun x hx => by simp [Op.operands]; exact .inr (by simpa using hx)
    cases fn <;> simp only [opA, opnds_congr (e := e) h1, opnds_congr (e := e) h2]
  | slice ty x lo hi mx =>
    have hx := O x (by simp [Op.operands])
    have hl : ∀ o, lo = some o → opnd e t o = opnd e t' o := fun o ho => O o (by simp [Op.operands, ho])
    have hh : ∀ o, hi = some o → opnd e t o = opnd e t' o := fun o ho => O o (by simp [Op.operands, ho])
    have hm : ∀ o, mx = some o → opnd e t o = opnd e t' o := fun o ho => O o (by simp [Op.operands, ho])
    simp only [opA, hx]
    cases lo <;> cases hi <;> cases mx <;> simp_all
  | fieldAddr s x f => simp only [opA, O x (by simp [Op.operands])]
  | field ty x f => simp only [opA, O x (by simp [Op.operands])]
  | indexAddr ty x ix => simp only [opA, O x (by simp [Op.operands]), O ix (by simp [Op.operands])]
  | index ty x ix => simp only [opA, O x (by simp [Op.operands]), O ix (by simp [Op.operands])]
  | lookup ty m k ok => simp only [opA, O m (by simp [Op.operands]), O k (by simp [Op.operands])]
  | mapUpdate ty m k v => simp only [opA, O m (by simp [Op.operands]), O k (by simp [Op.operands]), O v (by simp [Op.operands])]
  | insert ty m k v => simp only [opA, O m (by simp [Op.operands]), O k (by simp [Op.operands]), O v (by simp [Op.operands])]
  | range ty x => simp only [opA, O x (by simp [Op.operands])]
  | next it s => simp only [opA, O it (by simp [Op.operands])]
  | entry it => simp only [opA, O it (by simp [Op.operands])]
  | extract x i => simp only [opA, O x (by simp [Op.operands])]
  | call c =>
    have h1 : Same t t' c.args.toList := hs.sub fun x hx => by simp [Op.operands, Call.operands]; right; simpa using hx
    simp only [opA, callA, opnds_congr (e := e) h1]
    cases hc : c.callee with
    | value f =>
      have h2 : opnd e t f = opnd e t' f := O f (by simp [Op.operands, Call.operands, hc])
      simp only [h2]
    | _ => rfl
  | defer c =>
    have h1 : Same t t' c.args.toList := hs.sub fun x hx => by simp [Op.operands, Call.operands]; right; simpa using hx
    simp only [opA, opnds_congr (e := e) h1]
    cases hc : c.callee with
    | value f =>
      have h2 : opnd e t f = opnd e t' f := O f (by simp [Op.operands, Call.operands, hc])
      cases opnds e t' c.args.toList with
      | none => rfl
      | some args => simp only [h2]
    | _ => rfl
  | alloc _ => simp only [opA, A]
  | box _ _ => simp only [opA, A]
  | buildSlice _ _ _ => simp only [opA, A]
  | makeMap _ _ => simp only [opA, A]
  | makeSlice _ _ _ => simp only [opA, A]
  | _ => rfl

theorem map_val {h h' : AHeap} {x : Option Value} {v : Value} (hr : (x.map fun v => AR.val v h) = some (.val v h')) : h' = h := by
  obtain ⟨_, _, h2⟩ := of_map hr
  cases h2; rfl

/-- What reads lays nothing. -/
theorem read_heap {h h' : AHeap} {t : Tr Value} {op : Op} {v : Value} (hc : cls op = .read) (hr : opA e h t op = some (.val v h')) : h' = h := by
  cases op with
  | load ty a =>
    simp only [opA] at hr
    split at hr
    · cases hr
    · exact map_val hr
  | lookup ty m k ok =>
    simp only [opA] at hr
    split at hr
    · exact map_val hr
    · cases hr
  | entry it =>
    simp only [opA] at hr
    split at hr
    · cases hr
    · exact map_val hr
  | slice ty x lo hi mx =>
    simp only [opA] at hr
    split at hr
    · exact map_val hr
    · cases hr
  | call c =>
    simp only [cls] at hc
    simp only [opA, callA] at hr
    split at hr
    · cases hr
    · rename_i args _
      cases hcal : c.callee with
      | builtin b =>
        simp only [hcal] at hc hr
        split at hr
        · cases hc
        · cases hc
        · split at hr
          · cases hr
          · exact map_val hr
        · split at hr
          · cases hr
          · exact map_val hr
        · cases hp : args.all plain with
          | true => rw [hp] at hr; exact map_val hr
          | false => rw [hp] at hr; cases hr
        · cases hp : args.all plain with
          | true => rw [hp] at hr; exact map_val hr
          | false => rw [hp] at hr; cases hr
        · cases hr
      | value f => simp [hcal] at hc
      | invoke _ _ => simp [hcal] at hc
  | _ => simp [cls] at hc

/-- What looks at no memory. -/
theorem pure_heap {h h' : AHeap} {t : Tr Value} {op : Op} {v : Value} (hc : cls op = .pure) (hr : opA e h t op = some (.val v h')) (g : AHeap) : opA e g t op = some (.val v g) := by
  have M : ∀ {x : Option Value}, (x.map fun v => AR.val v h) = some (.val v h') → (x.map fun v => AR.val v g) = some (.val v g) := fun {x} hx => by
    obtain ⟨u, h1, h2⟩ := of_map hx
    cases h2; rw [h1]; rfl
  cases op with
  | move x => simp only [opA] at hr ⊢; exact M hr
  | assign x => simp only [opA] at hr ⊢; exact M hr
  | pick c a b =>
    simp only [opA] at hr ⊢
    split at hr
    · exact M hr
    · exact M hr
    · cases hr
  | build ty parts =>
    simp only [opA] at hr ⊢
    split at hr
    · cases hr
    · exact M hr
  | nilCheck x =>
    simp only [opA] at hr ⊢
    split at hr
    · cases hr; rfl
    · cases hr; rfl
    · cases hr
  | binOp op ty x y cp =>
    simp only [opA] at hr ⊢
    split at hr
    · exact M hr
    · cases hr
  | unOp op ty x =>
    simp only [opA] at hr ⊢
    split at hr
    · rename_i a _
      cases hp : plain a with
      | true => rw [hp] at hr; exact M hr
      | false => rw [hp] at hr; cases hr
    · cases hr
  | convert s d x =>
    simp only [opA] at hr ⊢
    split at hr
    · rename_i a _
      cases hp : plain a with
      | true => rw [hp] at hr; exact M hr
      | false => rw [hp] at hr; cases hr
    · cases hr
  | makeInterface ty x =>
    simp only [opA] at hr ⊢
    split at hr
    · cases hr
    · cases hr; rfl
    · cases hr
  | makeFunc fn first cap =>
    cases fn with
    | func f =>
      simp only [opA] at hr ⊢
      split at hr
      · cases hr; rfl
      · cases hr
    | _ => simp [opA] at hr
  | fieldAddr s x f =>
    simp only [opA] at hr ⊢
    split at hr
    · split at hr
      · rename_i hb _ size _
        cases hp : Nat.blt 0 size with
        | true => rw [hp] at hr; cases hr; rfl
        | false => rw [hp] at hr; cases hr
      · cases hr
    · cases hr
  | field ty x f =>
    simp only [opA] at hr ⊢
    split at hr
    · split at hr
      · cases hr
      · exact M hr
    · cases hr
  | indexAddr ty x ix =>
    simp only [opA] at hr ⊢
    split at hr
    · rename_i i len elem _ _ _
      split at hr
      · cases hr
      · cases hp : (decide (0 ≤ i) && decide (i < (len : Int))) with
        | true => rw [hp] at hr; cases hr; rfl
        | false => rw [hp] at hr; cases hr
    · rename_i len _ i elem _ _ _
      split at hr
      · cases hr
      · cases hp : (decide (0 ≤ i) && decide (i < (len : Int))) with
        | true => rw [hp] at hr; cases hr; rfl
        | false => rw [hp] at hr; cases hr
    · cases hr
  | index ty x ix =>
    simp only [opA] at hr ⊢
    split at hr
    · rename_i i len elem _ _ _
      split at hr
      · cases hr
      · cases hp : (decide (0 ≤ i) && decide (i < (len : Int))) with
        | true => rw [hp] at hr; exact M hr
        | false => rw [hp] at hr; cases hr
    · exact M hr
    · cases hr
  | extract x i =>
    simp only [opA] at hr ⊢
    split at hr
    · exact M hr
    · cases hr
  | call c =>
    simp only [cls] at hc
    split at hc <;> cases hc
  | _ => simp [cls] at hc

/-! ## The same values -/
theorem eqVN_eq : ∀ (n : Nat) (a b : Value), eqVN n a b = true → a = b
  | 0, _, _, h => by simp [eqVN] at h
  | n + 1, a, b, h => by
    have L : ∀ x y : List Value, eqVN.eqLN n x y = true → x = y := by
      intro x
      induction x with
      | nil => intro y hy; cases y <;> simp_all [eqVN.eqLN]
      | cons a x ih =>
        intro y hy
        cases y with
        | nil => simp [eqVN.eqLN] at hy
        | cons b y =>
          simp only [eqVN.eqLN, Bool.and_eq_true] at hy
          rw [eqVN_eq n a b hy.1, ih y hy.2]
    have A : ∀ x y : Array Value, eqVN.eqLN n x.toList y.toList = true → x = y := fun x y hxy => Array.toList_inj.1 (L _ _ hxy)
    cases a <;> cases b <;> simp only [eqVN, Bool.and_eq_true, decide_eq_true_eq, beq_iff_eq, Bool.false_eq_true, reduceCtorEq] at h <;> first
      | (subst h; rfl)
      | (obtain ⟨h1, h2⟩ := h; subst h1; subst h2; rfl)
      | (obtain ⟨⟨h1, h2⟩, h3⟩ := h; subst h1; rw [Nat.eq_of_beq_eq_true h2, Nat.eq_of_beq_eq_true h3])
      | (obtain ⟨h1, h2⟩ := h; subst h1; rw [eqVN_eq n _ _ h2])
      | (rw [A _ _ h])
      | (obtain ⟨⟨h1, h2⟩, h3⟩ := h; subst h1; rw [A _ _ h2, A _ _ h3])
      | rfl

end Go.Abs
