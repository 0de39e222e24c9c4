/-
  A script's operation, with the program alone.
-/
import Derived.Test.YtkamfmdonhaikaaGreatD9
namespace Go.Vl
open Go.Proofs
attribute [local irreducible] wpC wpO wpD Ex Rd callsK RetP Drop valK
set_option maxHeartbeats 4000000 in
set_option maxRecDepth 100000 in
theorem run0 {s : DS} {room : Int} {o : OpD}  (h : o.kind = 0) : s.run room o = s.append room o.nm o.bs := by unfold DS.run; rw [if_pos h]
set_option maxHeartbeats 4000000 in
set_option maxRecDepth 100000 in
theorem run1 {s : DS} {room : Int} {o : OpD} (h0 : ¬ o.kind = 0) (h : o.kind = 1) : s.run room o = s.sync o.nm := by unfold DS.run; rw [if_neg h0, if_pos h]
set_option maxHeartbeats 4000000 in
set_option maxRecDepth 100000 in
theorem run3 {s : DS} {room : Int} {o : OpD} (h0 : ¬ o.kind = 0) (h1 : ¬ o.kind = 1) (h : o.kind = 3) : s.run room o = s.remove o.nm := by unfold DS.run; rw [if_neg h0, if_neg h1, if_pos h]
set_option maxHeartbeats 4000000 in
set_option maxRecDepth 100000 in
theorem run4 {s : DS} {room : Int} {o : OpD} (h0 : ¬ o.kind = 0) (h1 : ¬ o.kind = 1) (h3 : ¬ o.kind = 3) (h : o.kind = 4) : s.run room o = s.rename o.nm o.to := by unfold DS.run; rw [if_neg h0, if_neg h1, if_neg h3, if_pos h]
set_option maxHeartbeats 4000000 in
set_option maxRecDepth 100000 in
theorem run6 {s : DS} {room : Int} {o : OpD} (h0 : ¬ o.kind = 0) (h1 : ¬ o.kind = 1) (h3 : ¬ o.kind = 3) (h4 : ¬ o.kind = 4) (h : o.kind = 6) : s.run room o = s.setFuse o.k o.keep := by unfold DS.run; rw [if_neg h0, if_neg h1, if_neg h3, if_neg h4, if_pos h]
set_option maxHeartbeats 4000000 in
set_option maxRecDepth 100000 in
theorem run7 {s : DS} {room : Int} {o : OpD} (h0 : ¬ o.kind = 0) (h1 : ¬ o.kind = 1) (h3 : ¬ o.kind = 3) (h4 : ¬ o.kind = 4) (h6 : ¬ o.kind = 6) (h : o.kind = 7) : s.run room o = s.crash o.keep := by unfold DS.run; rw [if_neg h0, if_neg h1, if_neg h3, if_neg h4, if_neg h6, if_pos h]
set_option maxHeartbeats 4000000 in
set_option maxRecDepth 100000 in
theorem run8 {s : DS} {room : Int} {o : OpD} (h0 : ¬ o.kind = 0) (h1 : ¬ o.kind = 1) (h3 : ¬ o.kind = 3) (h4 : ¬ o.kind = 4) (h6 : ¬ o.kind = 6) (h7 : ¬ o.kind = 7) (h : o.kind = 8) : s.run room o = s.restart := by unfold DS.run; rw [if_neg h0, if_neg h1, if_neg h3, if_neg h4, if_neg h6, if_neg h7, if_pos h]
set_option maxHeartbeats 4000000 in
set_option maxRecDepth 100000 in
theorem runX {s : DS} {room : Int} {o : OpD} (h0 : ¬ o.kind = 0) (h1 : ¬ o.kind = 1) (h3 : ¬ o.kind = 3) (h4 : ¬ o.kind = 4) (h6 : ¬ o.kind = 6) (h7 : ¬ o.kind = 7) (h8 : ¬ o.kind = 8) : s.run room o = (0, s) := by unfold DS.run; rw [if_neg h0, if_neg h1, if_neg h3, if_neg h4, if_neg h6, if_neg h7, if_neg h8]
end Go.Vl
