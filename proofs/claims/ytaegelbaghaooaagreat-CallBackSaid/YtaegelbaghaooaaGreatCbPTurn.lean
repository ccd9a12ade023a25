/- Part. -/
import Derived.Test.YtaegelbaghaooaaGreatCbPCall
set_option linter.all false
namespace Go.Proofs.YtaegelbaghaooaaGreat
open Go Go.RowKit Lx
structure TurnOk(r:List Int):Prop where
 th:0<=getI r 0/\getI r 0<=255
 size:getI r 3<=9223372036854775807
 n:getI r 4<=9223372036854775807
 align:getI r 5<=9223372036854775807
 byte:0<=getI r 8/\getI r 8<=255
end Go.Proofs.YtaegelbaghaooaaGreat
