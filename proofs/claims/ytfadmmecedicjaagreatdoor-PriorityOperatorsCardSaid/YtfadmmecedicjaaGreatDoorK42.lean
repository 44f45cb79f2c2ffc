/-
  PriorityOperators: parts of its proof (Jo).
-/
import Derived.Test.YtfadmmecedicjaaGreatDoorK37
import Derived.Test.YtfadmmecedicjaaGreatDoorK39
import Derived.Test.YtfadmmecedicjaaGreatDoorK41
set_option linter.unusedVariables false
set_option linter.unusedSimpArgs false

section
/-
  The law: true, and nothing that was there is changed.
-/
namespace Go.Pri
open Go Go.Abs Go.Proofs Go.RowKit

theorem law (m l0 l1 l2 l3 s0 s1 s2 : Int) (bs : List Int) (bv : Value) (w : World) (hm : 0 ≤ m ∧ m ≤ 255) (hL : ∀ i, 0 ≤ lvN l0 l1 l2 l3 i ∧ lvN l0 l1 l2 l3 i ≤ 255) (hS : ∀ k, 0 ≤ asN s0 s1 s2 k ∧ asN s0 s1 s2 k ≤ 255) (htab : TabAt w)
    (hbs : SliceAt 1 w bv (bs.map fun b => [.int .u8 b])) (hb : ∀ b ∈ bs, 0 ≤ b ∧ b ≤ 255) :
    Calls Tryz.prog 3 #[.agg #[.int .u8 m, .int .u8 l0, .int .u8 l1, .int .u8 l2, .int .u8 l3, .int .u8 s0, .int .u8 s1, .int .u8 s2], bv] w fun e w' => e = .returned (.bool true) ∧ Old w w' := by
  have h1 : 1 ≤ (1 + m % 4).toNat := by omega
  have h4 : (1 + m % 4).toNat ≤ 4 := by omega
  have hd : (bs.take 5).length ≤ 5 := by rw [List.length_take]; omega
  have hok := lvOK_all (lvN l0 l1 l2 l3) (asN s0 s1 s2) h1 h4
  refine law3 m l0 l1 l2 l3 s0 s1 s2 bs bv w hm hL hS htab hbs hb (fun X hX => sanity4 X (htab.old hX)) _ _ _ _ _ _ rfl rfl rfl rfl rfl ?_ ?_ ?_
    (pack_all h1 h4 hd (fun k hk => ?_) rfl rfl rfl)
  · rw [treesN_cat _ hd]
    have := (cat_small 5 (Nat.le_refl _) _ hd).1
    omega
  · rw [(rulesF_perm _).length_eq]
    have := rules_few hok
    omega
  · intro f hf
    exact (rule_wf hok ((rulesF_perm _).mem_iff.1 hf)).1.par
  · have hk' : k < ((bs.take 5).map fun b => (b % (1 + m % 4)).toNat).length := by rw [List.length_map]; exact hk
    rw [List.getD_eq_getElem?_getD, List.getElem?_eq_getElem hk', Option.getD_some, List.getElem_map]
    have := Int.emod_lt_of_pos ((bs.take 5)[k]'hk) (show 0 < 1 + m % 4 by omega)
    have := Int.emod_nonneg ((bs.take 5)[k]'hk) (show (1 + m % 4) ≠ 0 by omega)
    omega
end Go.Pri
end
