/- The words of a line, joined. -/
import Derived.Test.YthhdjbpmkfnhjaaDoorWMore
import Derived.Lib.Join
namespace Go.Proofs.YthhdjbpmkfnhjaaDoor.P
open Go.RowKit Go.Proofs.YthhdjbpmkfnhjaaDoorW.PrintWords

def joinB (xs : List ByteArray) : ByteArray := ⟨(Lib.join (xs.map (·.data.toList)) [32]).toArray⟩
theorem toList_len' (s : ByteArray) : s.data.toList.length = s.size := rfl
end Go.Proofs.YthhdjbpmkfnhjaaDoor.P
