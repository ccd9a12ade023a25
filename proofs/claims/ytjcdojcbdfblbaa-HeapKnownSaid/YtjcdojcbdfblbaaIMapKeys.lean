/- a map's keys, as the library's word has them. -/
import Derived.Test.YtjcdojcbdfblbaaIMap
import Derived.Lib.SlKeysI
namespace Go.Proofs.Ytjcdojcbdfblbaa.IM
open Go.RowKit Go.Maps
variable {α : Type} (dv : α → DataW Unit)
theorem toD_keys (l : List (Int × α)) : Go.intKeys (toD dv l) = l.map (·.1) := by
  unfold toD Go.intKeys
  simp only [List.map_map]
  congr 1
end Go.Proofs.Ytjcdojcbdfblbaa.IM
