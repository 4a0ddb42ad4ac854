/- Which functions of the program lay one new row and hand out its place, and no more: bag.New, batch.New, bell.New. -/
import Derived.Test.YtnjhcfcnpapaiaaGreatDoorA0
namespace Go.AM
def zeros64 : List AV := List.replicate 64 (.int .i64 0)
def freshOf : FuncId → Option (List AV)
  | 42 => some [.slice none 0 (some 0) 4, .int .i64 0]
  | 135 => some (.slice none 0 (some 0) 3 :: zeros64)
  | 136 => some (.int .i64 0 :: .int .i64 0 :: .slice none 0 (some 0) 4 :: zeros64)
  | _ => none
end Go.AM
