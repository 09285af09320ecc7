/- All printed texts of the law. -/
import Derived.Test.YtkkodbbgdndhmaaDoorQFnExactLexx4
import Derived.Test.YtkkodbbgdndhmaaDoorQFnExactLexx7
