/-
  What an entry that is right has.
-/
import Derived.Test.YtaffgndickdbiaaGreatDoorEntSpec
namespace Go.Creel
set_option linter.unusedVariables false
open Go.RowKit
structure MetaRight (m : Meta) : Prop where
  mode : 0 ≤ m.mode ∧ m.mode ≤ 4095
  uid : 0 ≤ m.uid ∧ m.uid ≤ 1125899906842624
  gid : 0 ≤ m.gid ∧ m.gid ≤ 1125899906842624
  user : m.user.size ≤ 60
  group : m.group.size ≤ 60
  user0 : hasB m.user 0 = false
  group0 : hasB m.group 0 = false
  second : -1099511627776 ≤ m.second ∧ m.second ≤ 1099511627776
  nano : 0 ≤ m.nano ∧ m.nano ≤ 999999999
theorem metaRight {m : Meta} (h : metaFault m = 0) : MetaRight m := by
  unfold metaFault at h
  split at h
  · cases h
  · rename_i h1
    split at h
    · cases h
    · rename_i h2
      split at h
      · cases h
      · rename_i h3
        unfold timeFault at h
        split at h
        · cases h
        · rename_i h4
          have hu : hasB m.user 0 = false := by cases e : hasB m.user 0; rfl; exact absurd (.inl e) h3
          have hg : hasB m.group 0 = false := by cases e : hasB m.group 0; rfl; exact absurd (.inr e) h3
          exact ⟨by omega, by omega, by omega, by omega, by omega, hu, hg, by omega, by omega⟩
structure EntRight (x : Ent) : Prop where
  path : pathFault x.path = 0
  pathSize : x.path.size ≤ 400
  mt : MetaRight x.mt
  kind : 1 ≤ x.kind ∧ x.kind ≤ 4
  data : x.data.length ≤ 2000
  target : x.target.size ≤ 400
  noData : x.kind ≠ 1 → x.data.length = 0
  noTarget : x.kind < 3 → x.target.size = 0
  hasTarget : 3 ≤ x.kind → x.target.size ≠ 0
  link : x.kind = 4 → pathFault x.target = 0
  sym : x.kind ≠ 4 → hasB x.target 0 = false
theorem entRight {x : Ent} (h : entFault x = 0) : EntRight x := by
  unfold entFault entFaultN at h
  split at h
  · rename_i h1; exact absurd h h1
  · rename_i h1
    have hp : pathFault x.path = 0 := Classical.not_not.1 h1
    have hps : x.path.size ≤ 400 := by
      refine Classical.byContradiction fun e => ?_
      have := pathFault_size (s := x.path) (.inr (by omega))
      rw [hp] at this
      cases this
    split at h
    · rename_i h2; exact absurd h h2
    · rename_i h2
      split at h
      · cases h
      · rename_i h3
        split at h
        · cases h
        · rename_i h4
          split at h
          · cases h
          · rename_i h5
            have hk : x.kind = 4 → pathFault x.target = 0 := fun e => by rw [if_pos e] at h; exact h
            have hs : x.kind ≠ 4 → hasB x.target 0 = false := fun e => by
              rw [if_neg e] at h
              cases e2 : hasB x.target 0 with
              | false => rfl
              | true => rw [e2] at h; cases h
            exact ⟨hp, hps, metaRight (Classical.not_not.1 h2), by omega, by omega, by omega, fun e => by omega, fun e => by omega, fun e => by omega, hk, hs⟩
end Go.Creel
