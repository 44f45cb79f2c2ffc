/-
  The closed calls that the sanity comes to hold of the model; the deferred call that does nothing; and sanity itself, in whatever world that holds the table.
-/
import Derived.Test.YtlilfkbnlacfgaaGreatDoorSan1
import Derived.Test.YtlilfkbnlacfgaaGreatDoorSan2
import Derived.Test.YtlilfkbnlacfgaaGreatDoorSan3
import Derived.Test.YtlilfkbnlacfgaaGreatDoorSan4
import Derived.Test.YtlilfkbnlacfgaaGreatDoorWk1
import Derived.RecoverIn
namespace Go.W14
open Go Go.Abs Go.Proofs

theorem idle85 (ks : List Known) : Idle (envM ks) := by
  intro g hg args w n
  obtain rfl : g = 85 := Nat.eq_of_beq_eq_true hg
  refine ⟨args, enters_of Tryz.func85 (by kernel_rfl) rfl args w, ?_⟩
  have hne : Sem.run Tryz.prog (binOp BinOp.neq 20 Value.nilIface Value.nilIface) w = .ok (.bool false) w := by simp [go_sem, Tryz.underlying20]
  show CallsDIn Fence.wide n Tryz.prog 85 args .returning w _
  refine callsDIn_of_wpSIn Tryz.func85 rfl trivial fun c₀ cs hu => ?_
  have hT : 17 ≤ (args ++ Array.replicate (Tryz.f85.ntmps - args.size) undef).size := by
    have : Tryz.f85.ntmps = 17 := Tryz.ntmps85
    simp [this]; omega
  generalize (args ++ Array.replicate (Tryz.f85.ntmps - args.size) undef) = T at hT ⊢
  have t4 : 4 < T.size := by omega
  have t1 : 1 < T.size := by omega
  have t5 : 5 < T.size := by omega
  have t6 : 6 < T.size := by omega
  apply wpSIn_seq
  apply wpSIn_region
  simp [wpOpsSIn, go_sem, recoverD, hu, Exit.thenS, t4, t1]
  apply wpSIn_seq
  apply wpSIn_region
  simp [wpOpsSIn, go_sem, Exit.thenS, t4, t1, t5, t6, hne]
  refine wpSIn_cond (t := false) (by simp [Act.eval, t6]) ?_
  simp only [Bool.false_eq_true, if_false]
  refine wpSIn_of_wpIn rfl (wpIn_skip ?_)
  cases c₀
  simp_all [bodyPostS, results, Tryz.results85]

/-! ## The environments -/
theorem fields_ok : fieldsOk tt Tryz.prog.types.toList = true := by kernel_rfl
theorem names_ok : namesOk Tryz.prog.funcs.toList = true := by kernel_rfl
theorem mix_ok : Tryz.prog.follows .mixedOrders = true := by kernel_rfl
theorem env_ok (ks : List Known) : (envM ks).Ok := envOf_ok idle 1 (memoOf ks) rfl rfl fields_ok names_ok

theorem gives_some {v : Value} {x : Option (Value × AHeap)} (h : gives v x = true) : ∃ h', x = some (v, h') := by
  rcases x with _ | ⟨v', h'⟩
  · cases h
  · exact ⟨h', by rw [eqVN_eq 2 v' v h]⟩

/-- One call known: what it hands back, wherever what it reads lies. -/
def Good (k : Known) : Prop := ∀ f args h, knownAt k f args h = true → plain k.res = true ∧ (∃ fn, (envM []).fn f = some fn) ∧ ∀ ρ w (args' : Array Value), Gl (envM []) ρ → VsRel ρ args args'.toList → WRel ρ h w →
    Calls (envM []).P f args' w fun en w' => en = .returned k.res ∧ Keeps w w'

theorem memo_good {ms : List Known} (hm : ∀ k ∈ ms, Good k) : MemoOK (envM ms) := memo_ok ms rfl hm
theorem good_of {ms : List Known} (hm : ∀ k ∈ ms, Good k) {k : Known} (hk : gives k.res (call (envM ms) 200 k.f k.args (knownHeap k)) = true) (hp : plain k.res = true) : Good k := by
  obtain ⟨h', hh⟩ := gives_some hk
  have hc : CallOK (envM ms) (call (envM ms) 200) := sound (env_ok ms) mix_ok (idle85 ms) (memo_good hm) 200
  exact fun f args h ha => known_ok (e := envM []) hc rfl rfl rfl hh hp ha

theorem good77 : Good k77 := good_of (ms := []) (fun _ h => by cases h) r77 rfl
theorem good_one : ∀ k ∈ [k77], Good k := fun k hk => by
  obtain rfl := List.mem_singleton.1 hk; exact good77
theorem good44 : Good k44 := good_of good_one r44 rfl
theorem good_two : ∀ k ∈ [k44, k77], Good k := fun k hk => by
  rcases List.mem_cons.1 hk with rfl | hk
  · exact good44
  · exact good_one k hk
theorem good20x0 : Good k20x0 := good_of good_two r20x0 rfl
theorem good20x1 : Good k20x1 := good_of good_two r20x1 rfl
theorem good20x2 : Good k20x2 := good_of good_two r20x2 rfl
theorem good20x3 : Good k20x3 := good_of good_two r20x3 rfl
theorem good20x4 : Good k20x4 := good_of good_two r20x4 rfl
theorem good_all : ∀ k ∈ [k44, k77, k20x0, k20x1, k20x2, k20x3, k20x4], Good k := fun k hk => by
  simp only [List.mem_cons, List.not_mem_nil, or_false] at hk
  rcases hk with rfl | rfl | rfl | rfl | rfl | rfl | rfl
  · exact good44
  · exact good77
  · exact good20x0
  · exact good20x1
  · exact good20x2
  · exact good20x3
  · exact good20x4

theorem vs_ints (ρ : Inj) : ∀ l : List Nat, VsRel ρ (l.map fun (n : Nat) => Value.int .u8 n) (l.map fun (n : Nat) => Value.int .u8 n)
  | [] => .nil
  | n :: l => .cons (.int _ _) (vs_ints ρ l)

def ρ0 : Inj := fun i => if i = 0 then some ⟨0, 0, 64, 64, 0⟩ else none

/-- THE SANITY OF THE CHAPTER: true, in whatever world that holds the table. -/
theorem sanity4 (w : World) (el : TypeId) (fz : Nat × Nat) (ht : w.heap[0]? = some (.cells table.toArray el fz)) :
    Calls Tryz.prog 4 #[] w fun en w' => en = .returned (.bool true) ∧ Keeps w w' := by
  obtain ⟨h', hh⟩ := gives_some r4
  have hc : CallOK _ (call (envM [k44, k77, k20x0, k20x1, k20x2, k20x3, k20x4]) 200) := sound (env_ok _) mix_ok (idle85 _) (memo_good good_all) 200
  have only : ∀ i o, h0.get i = some o → i = 0 ∧ o = .row table false 0 := fun i o h => by
    have h : ((Tr.nil : Tr AObj).set 0 (some (.row table false 0))).get i = some o := h
    rw [Tr.get_set] at h
    split at h
    · rename_i e; cases h; exact ⟨e, rfl⟩
    · rw [Tr.get_nil] at h; cases h
  have hw : WRel ρ0 h0 w := by
    refine ⟨fun i pl h => ?_, fun i o h => ?_, fun i j o p pi pj hij h1 h2 => ?_⟩
    · simp only [ρ0] at h
      split at h
      · rename_i e; subst e; exact Nat.zero_lt_one
      · cases h
    · obtain ⟨rfl, rfl⟩ := only i o h
      refine ⟨_, rfl, table.toArray, el, fz, ht, fun h => (by cases h), rfl, rfl, Nat.le_refl _, Nat.le_refl _, fun _ => rfl, ?_⟩
      have e : (table.toArray.toList.drop 0).take 64 = table := List.take_of_length_le (l := table) (Nat.le_refl 64)
      show VsRel ρ0 table ((table.toArray.toList.drop 0).take 64)
      rw [e]
      unfold table
      exact vs_ints _ _
    · obtain ⟨rfl, rfl⟩ := only i o h1
      cases h2
  refine ((hc _ _ _ _ _ hh).2 ρ0 w #[] (fun g hg => ?_) .nil hw).mono ?_
  · obtain rfl : g = 0 := Nat.lt_one_iff.1 hg
    exact ⟨_, rfl, rfl, rfl⟩
  · rintro en w' ⟨v', ρ', rfl, r1, r2, r3⟩
    cases r1
    refine ⟨rfl, r3.os, r3.output, r3.size, r3.frozen, fun j hj => r3.kept j hj ?_⟩
    rintro ⟨i, o, pl, g1, g2, _, _⟩
    obtain ⟨rfl, rfl⟩ := only i o g1
    cases g2

end Go.W14
