import Derived.Test.YtkamfmdonhaikaaGreatD7
namespace Go.Vl
open Go.Proofs
attribute [local irreducible] wpC wpO wpD Ex Rd callsK RetP Drop valK
set_option maxHeartbeats 4000000 in
set_option maxRecDepth 100000 in
theorem begun_used (e : World) {d m clk : Nat} {es : Array MapEntry} {l : List Fl} {F : Hp} {K : Value → Hp → Prop} (hH : Hel es clk l) (h0 : K (.int .i64 5) ((dskO d m es clk 0 0 10 false ++ fsH l) ++ F)) :
    callsK Tryz.prog e 8 #[pv d] ((dskO d m es clk 0 0 10 false ++ fsH l) ++ F) K := by
  have ht := hH.tot
  exact dused_spec (k := 0) e hH.map hH.ok (by omega) (by rw [ht]; exact h0)
end Go.Vl
